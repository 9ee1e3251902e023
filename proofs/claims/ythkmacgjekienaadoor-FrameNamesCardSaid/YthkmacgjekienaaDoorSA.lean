/- head.end, by hand: where a header ends. -/
import Derived.Test.YthkmacgjekienaaDoorP2
import Derived.Test.YthkmacgjekienaaDoorX
import Derived.Test.YthkmacgjekienaaDoorShelf
import Derived.WalkKit
import Derived.Shelf.Spec.BytesIndexFunc
import Derived.Shelf.Bytes.SlTrim
import Derived.Test.YthkmacgjekienaaDoorP1
namespace Go.Proofs.YthkmacgjekienaaDoor.P
open Go.RowKit Go.Proofs.YthkmacgjekienaaDoorW.PrintWords Go.Proofs.YthkmacgjekienaaDoorW.PrintLast Go.Proofs.YthkmacgjekienaaDoorW.PrintMore
set_option linter.unusedVariables false
set_option linter.unusedSimpArgs false
theorem bytesIn_of_C {w : World} {A : Option Addr} {l : List Int} (h : Kd.C (Kd.int .u8) w A l.length l) : Lib.BytesIn w A l.length l := by
  rcases Nat.eq_zero_or_pos l.length with h0 | h0
  · rw [h0]; exact Lib.BytesIn.nil _ _ _
  · obtain ⟨hn, hm, h2⟩ := Kd.reads_of_C (enc := Value.int .u8) (d := (0 : Int)) (h1 := fun _ => rfl) h
    obtain ⟨ad, rfl, hc⟩ := h2 h0
    exact Lib.BytesIn.of_cells hc
theorem cells_of_C {w : World} {A : Option Addr} {l : List Int} (h : Kd.C (Kd.int .u8) w A l.length l) (h0 : 0 < l.length) : ∃ ad, A = some ad ∧ ∀ i, i < l.length → w.cell? (ad.add i) = some (.int .u8 (l.getD i 0)) := by
  obtain ⟨hn, hm, h2⟩ := Kd.reads_of_C (enc := Value.int .u8) (d := (0 : Int)) (h1 := fun _ => rfl) h
  exact h2 h0
/-- '[]byte("..")' of a constant, as a step of the walk: the row that it lays. -/
theorem lit_V (W : World) (e : TypeId) (xs : List Int) (hm : xs.length ≤ 9223372036854775807) (mark : Nat × Nat) :
    Kd.C (Kd.int .u8) (W.alloc (.cells (xs.map (Value.int .u8)).toArray e mark)) (some ⟨W.heap.size, 0, none⟩) xs.length xs := by
  refine Kd.C_of_reads (d := (0 : Int)) (h1 := fun _ => rfl) ⟨rfl, hm, fun hn => ⟨_, rfl, fun j hj => ?_⟩⟩
  rw [add_plain]
  unfold World.cell?
  simp only
  rw [heap_alloc_new]
  simp [List.getD, hj]
theorem alloc_size (W : World) (o : Obj) : (W.alloc o).heap.size = W.heap.size + 1 := by simp
/-- Where the header ends that bytes begin with; false: it does not. -/
def endF (l : List Int) : Int × Bool := if Lib.hasPrefix (Lib.bytesOf l) [13, 10] = true then (2, true) else (Lib.index (Lib.bytesOf l) [13, 10, 13, 10] + 4, decide (0 ≤ Lib.index (Lib.bytesOf l) [13, 10, 13, 10]))
theorem index4 (A : Option Addr) (c : Nat) (l : List Int) (w w2 : World) (hr : Kd.C (Kd.int .u8) w2 A l.length l) (hc : l.length ≤ c) (hb : ∀ x ∈ l, 0 ≤ x ∧ x < 256) (hs : l.length < 4294967281) (hT : TAB w2) (q : Option Addr) (d : Nat)
    (hq : Kd.C (Kd.int .u8) w2 q 4 [13, 10, 13, 10]) :
    Calls Tryd.prog 52 #[.slice A l.length c, .slice q 4 d] w2 fun e w' => e = .returned (.int .i64 (Lib.index (Lib.bytesOf l) [13, 10, 13, 10])) ∧ ∃ n, w' = w2.drewN n := by
  rcases Nat.eq_zero_or_pos l.length with h0 | h0
  · obtain rfl : l = [] := List.length_eq_zero_iff.mp h0
    refine (Tryd.bytes_Index_longer A q 0 c 4 d w2 (by decide) (by decide) (by decide)).mono ?_
    rintro e w' ⟨rfl, rfl⟩
    exact ⟨rfl, 0, rfl⟩
  · obtain ⟨a1, rfl, hc1⟩ := cells_of_C hr h0
    obtain ⟨a2, rfl, hc2⟩ := cells_of_C (l := [13, 10, 13, 10]) hq (by decide)
    obtain ⟨m, hm⟩ := hT.maxLen
    exact Tryd.bytes_Index_at a1 a2 l.length c 4 d l [13, 10, 13, 10] m w2 rfl rfl hb (by decide) hc1 hc2 hc hs (by decide) hm
set_option maxRecDepth 1000000 in
set_option maxHeartbeats 1000000 in
theorem end_c (A : Option Addr) (c : Nat) (l : List Int) (w : World) (hr : Kd.C (Kd.int .u8) w A l.length l) (hc : l.length ≤ c) (hb : ∀ x ∈ l, 0 ≤ x ∧ x < 256) (hs : l.length < 4294967281) (hT : TAB w) :
    Calls Tryd.prog 41 #[.slice A l.length c] w fun e w' => e = .returned (.tuple #[.int .i64 (endF l).1, .bool (endF l).2]) ∧ Below w.heap.size w w' := by
  have kc := fun (w : World) (C : Array Value) (n c : Nat) => Lib.run_convert_bytes_const (P := Tryd.prog) w 27 5 C n c Tryd.underlying27 Tryd.underlying5
  have hB := Aside0.mk hb
  have hR := Aside0.mk hr
  have hTT := Aside0.mk hT
  clear hb hr hT
  have h2 : Lib.index (Lib.bytesOf l) [13, 10, 13, 10] + 4 ≤ l.length ∨ Lib.index (Lib.bytesOf l) [13, 10, 13, 10] = -1 := by
    rcases Int.lt_or_le (Lib.index (Lib.bytesOf l) [13, 10, 13, 10]) 0 with h | h
    · have := Lib.index_ge (Lib.bytesOf l) [13, 10, 13, 10]; right; omega
    · have := Lib.index_room _ _ h; rw [Lib.bytesOf_length] at this; left; exact this
  have h3 := Lib.index_ge (Lib.bytesOf l) [13, 10, 13, 10]
  have b1 : Below w.heap.size w (w.alloc (.cells #[.int .u8 13, .int .u8 10] 5 (2, 3))) := below_alloc (Below.refl _ _) _
  have l2 : Kd.C (Kd.int .u8) (w.alloc (.cells #[.int .u8 13, .int .u8 10] 5 (2, 3))) (some ⟨w.heap.size, 0, none⟩) [(13 : Int), 10].length [13, 10] := lit_V w 5 [13, 10] (by decide) (2, 3)
  have cp := Tryd.bytes_HasPrefix_all A (some ⟨w.heap.size, 0, none⟩) l.length c 2 2 l [13, 10] _ rfl rfl hc (bytesIn_of_C (Kd.C_below hR.out b1)) (bytesIn_of_C l2)
  rw [show Lib.bytesOf [13, 10] = [13, 10] from rfl] at cp
  unfold endF
  by_cases hp : Lib.hasPrefix (Lib.bytesOf l) [13, 10] = true
  · rw [if_pos hp]
    rw [hp] at cp
    go_enter Tryd.func41, Tryd.ntmps41
    go_wp2_with (go_at_call 51; refine cp.mono ?_; rintro e w' ⟨rfl, rfl⟩)
    go_ret2
    exact ⟨rfl, b1⟩
  · rw [if_neg hp]
    rw [show Lib.hasPrefix (Lib.bytesOf l) [13, 10] = false from by simpa using hp] at cp
    have b2 : Below w.heap.size w ((w.alloc (.cells #[.int .u8 13, .int .u8 10] 5 (2, 3))).alloc (.cells #[.int .u8 13, .int .u8 10, .int .u8 13, .int .u8 10] 5 (4, 5))) := below_alloc b1 _
    have l4 : Kd.C (Kd.int .u8) ((w.alloc (.cells #[.int .u8 13, .int .u8 10] 5 (2, 3))).alloc (.cells #[.int .u8 13, .int .u8 10, .int .u8 13, .int .u8 10] 5 (4, 5))) (some ⟨(w.alloc (.cells #[.int .u8 13, .int .u8 10] 5 (2, 3))).heap.size, 0, none⟩) [(13 : Int), 10, 13, 10].length [13, 10, 13, 10] := lit_V _ 5 [13, 10, 13, 10] (by decide) (4, 5)
    have hsz := alloc_size
    rw [hsz] at l4
    have kc2 := fun (W : World) (o : Obj) (C : Array Value) (n c : Nat) => hsz W o ▸ kc (W.alloc o) C n c
    have ci := index4 A c l w _ (Kd.C_below hR.out b2) hc hB.out hs (hTT.out.below b2) _ 4 l4
    generalize Lib.index (Lib.bytesOf l) [13, 10, 13, 10] = r at h2 h3 ci ⊢
    have hw : IntKind.i64.wrap (r + 4) = r + 4 := by rw [i64_w]; unfold wrap64; omega
    clear hp
    go_enter Tryd.func41, Tryd.ntmps41
    go_wp2_with (first | (go_at_call 51; refine cp.mono ?_; rintro e w' ⟨rfl, rfl⟩) | (go_at_call 52; refine ci.mono ?_; rintro e w' ⟨rfl, n, rfl⟩))
    go_ret2
    exact ⟨rfl, pw_below_drewN b2 _⟩
end Go.Proofs.YthkmacgjekienaaDoor.P
/- head.line's parts, by hand: names' characters. -/
namespace Go.Proofs.YthkmacgjekienaaDoor.P
open Go.RowKit Go.Proofs.YthkmacgjekienaaDoorW.PrintWords Go.Proofs.YthkmacgjekienaaDoorW.PrintLast Go.Proofs.YthkmacgjekienaaDoorW.PrintMore
set_option linter.unusedVariables false
set_option linter.unusedSimpArgs false
/-- May a character be in a name? -/
def nameI (c : Int) : Bool := (decide (97 ≤ c) && decide (c ≤ 122)) || (decide (65 ≤ c) && decide (c ≤ 90)) || (decide (48 ≤ c) && decide (c ≤ 57)) || (c == 45)
set_option maxHeartbeats 4000000 in
set_option maxRecDepth 100000 in
theorem inName_c (c : Int) (w : World) : Calls Tryd.prog 55 #[.int .i32 c] w fun e w' => e = .returned (.bool (nameI c)) ∧ w = w' := by
  unfold nameI
  obtain ⟨b1, h1⟩ : ∃ b, decide (97 ≤ c) = b := ⟨_, rfl⟩
  obtain ⟨b2, h2⟩ : ∃ b, decide (c ≤ 122) = b := ⟨_, rfl⟩
  obtain ⟨b3, h3⟩ : ∃ b, decide (65 ≤ c) = b := ⟨_, rfl⟩
  obtain ⟨b4, h4⟩ : ∃ b, decide (c ≤ 90) = b := ⟨_, rfl⟩
  obtain ⟨b5, h5⟩ : ∃ b, decide (48 ≤ c) = b := ⟨_, rfl⟩
  obtain ⟨b6, h6⟩ : ∃ b, decide (c ≤ 57) = b := ⟨_, rfl⟩
  rw [h1, h2, h3, h4, h5, h6]
  by_cases h : c = 45
  · subst h
    obtain rfl := h1.symm; obtain rfl := h2.symm; obtain rfl := h3.symm; obtain rfl := h4.symm; obtain rfl := h5.symm; obtain rfl := h6.symm
    go_enter Tryd.func55, Tryd.ntmps55
    go_wp2
    go_ret
    exact ⟨rfl, rfl⟩
  · have h7 : (c == 45) = false := beq_eq_false_iff_ne.mpr h
    rw [h7]
    cases b1 <;> cases b2 <;> cases b3 <;> cases b4 <;> cases b5 <;> cases b6 <;> first
      | (exfalso; simp only [decide_eq_true_eq, decide_eq_false_iff_not] at h1 h2 h3 h4 h5 h6; omega)
      | (clear h; go_enter Tryd.func55, Tryd.ntmps55; go_wp2; go_ret; exact ⟨rfl, rfl⟩)
theorem line1_c (c : Int) (w : World) : Calls Tryd.prog 54 #[.int .i32 c] w fun e w' => e = .returned (.bool (!nameI c)) ∧ w = w' := by
  have h := inName_c c w
  generalize nameI c = b at h ⊢
  cases b <;> (go_enter Tryd.func54, Tryd.ntmps54; go_wp2_with (go_at_call 55; refine h.mono ?_; rintro e w' ⟨rfl, rfl⟩); go_ret; exact ⟨rfl, rfl⟩)
theorem byte_of (l : List Int) (hb : ∀ x ∈ l, 0 ≤ x ∧ x < 256) (i : Nat) (h : i < (strOfNums l).size) (h2 : i < l.length) : ((strOfNums l)[i]'h).toNat = (l[i]'h2).toNat := by
  have := hb _ (List.getElem_mem h2)
  show ((strOfNums l).data[i]'h).toNat = _
  simp only [strOfNums, List.getElem_toArray, List.getElem_map, UInt8.toNat_ofNat']
  omega
theorem nameI_high {c : Int} (h : 128 ≤ c) : nameI c = false := by
  unfold nameI
  rw [decide_eq_false (show ¬ c ≤ 122 by omega), decide_eq_false (show ¬ c ≤ 90 by omega), decide_eq_false (show ¬ c ≤ 57 by omega), beq_eq_false_iff_ne.mpr (show c ≠ 45 by omega)]
  simp
theorem idx_names (l : List Int) (hb : ∀ x ∈ l, 0 ≤ x ∧ x < 256) (f : Nat) : ∀ pos : Nat, l.length ≤ pos + f → (0 ≤ Lib.idxFuncFrom (fun x => !nameI (x : Int)) true (strOfNums l) f pos ↔ ¬ (l.drop pos).all nameI = true) := by
  have hz := strOfNums_size l
  induction f with
  | zero =>
    intro pos h
    rw [List.drop_of_length_le (by omega)]
    simp [Lib.idxFuncFrom]
  | succ f ih =>
    intro pos h
    unfold Lib.idxFuncFrom
    by_cases hp : pos < l.length
    · have hp' : pos < (strOfNums l).size := by omega
      have hbyte := byte_of l hb pos hp' hp
      have hr := hb _ (List.getElem_mem hp)
      rw [if_pos hp', List.drop_eq_getElem_cons hp, List.all_cons]
      by_cases ha : (l[pos]'hp) < 128
      · rw [decode_ascii (strOfNums l) pos hp' (by omega), hbyte]
        simp only
        have e : (((l[pos]'hp).toNat : Nat) : Int) = l[pos]'hp := by omega
        rw [e]
        cases hn : nameI (l[pos]'hp)
        · simp
        · have := ih (pos + 1) (by omega)
          simpa using this
      · have hd := decode_high (strOfNums l) pos hp' (by omega)
        have hnd : nameI (((Utf8.decode (strOfNums l) pos).1 : Nat) : Int) = false := nameI_high (by omega)
        rw [hnd, nameI_high (show 128 ≤ l[pos]'hp by omega)]
        simp
    · rw [if_neg (by omega), List.drop_of_length_le (by omega)]
      simp
theorem all_drop0 (l : List Int) : (l.drop 0).all nameI = l.all nameI := by simp
theorem pred_names (w : World) : PredGrows Tryd.prog 54 #[] (fun x => !nameI (x : Int)) w := by
  intro W x hx hb
  refine (line1_c (x : Int) W).mono ?_
  rintro e w' ⟨rfl, rfl⟩
  exact ⟨rfl, Below.refl _ _⟩
theorem enters54 : ∀ args w, (callFunc 54 args).run Tryd.prog w = .ok (.enter 54 args) w := enters_of Tryd.func54 (by kernel_rfl) rfl
theorem contains_c (A : Option Addr) (c : Nat) (l : List Int) (w : World) (hr : Kd.C (Kd.int .u8) w A l.length l) (hc : l.length ≤ c) (h0 : 0 < l.length) (hb : ∀ x ∈ l, 0 ≤ x ∧ x < 256) (hT : TAB w) :
    Calls Tryd.prog 53 #[.slice A l.length c, .func (.func 54) #[] #[]] w fun e w' => e = .returned (.bool (!l.all nameI)) ∧ Below w.heap.size w w' := by
  have hz := strOfNums_size l
  obtain ⟨b, o, rfl, hcell⟩ := (bytesIn_of_C hr).at h0
  have hBA : BytesAt (strOfNums l) b o w := by
    intro j hj
    have hj' : j < l.length := by omega
    rw [hcell j hj']
    congr 2
    have := byte_of l hb j hj hj'
    have hr := hb _ (List.getElem_mem hj')
    rw [List.getD_eq_getElem?_getD, List.getElem?_eq_getElem hj']
    show l[j] = _
    have e : (strOfNums l).get! j = (strOfNums l)[j]'hj := getElem!_pos (strOfNums l).data j hj
    rw [e]
    omega
  have hi := Any7.bytes_indexFunc Tryd.lays7n55 54 #[] enters54 (fun x => !nameI (x : Int)) true (strOfNums l) b o c w (by omega) (by have := hr.2.1; omega) hBA hT.utf (pred_names w)
  have hn := idx_names l hb l.length 0 (by omega)
  rw [all_drop0] at hn
  have he : Lib.idxFunc (fun x => !nameI (x : Int)) true (strOfNums l) = Lib.idxFuncFrom (fun x => !nameI (x : Int)) true (strOfNums l) l.length 0 := by unfold Lib.idxFunc; rw [hz]
  rw [he] at hi
  rw [hz] at hi
  generalize Lib.idxFuncFrom (fun x => !nameI (x : Int)) true (strOfNums l) l.length 0 = r at hi hn
  have h54 : Calls Tryd.prog 71 #[.slice (some ⟨b, o, none⟩) l.length c, .func (.func 54) #[] #[]] w fun e w' => e = .returned (.int .i64 r) ∧ Below w.heap.size w w' := by
    clear hn hBA hcell hr he
    go_enter Tryd.func71, Tryd.ntmps71
    go_wp2_with (go_at_call 89; refine hi.mono ?_; rintro e w' ⟨rfl, hbel⟩)
    go_ret
    exact ⟨rfl, hbel⟩
  have hv : (!l.all nameI) = decide (0 ≤ r) := by
    cases hq : l.all nameI
    · rw [hq] at hn; rw [decide_eq_true (hn.mpr (by simp))]; rfl
    · rw [hq] at hn; rw [decide_eq_false (fun h => hn.mp h rfl)]; rfl
  rw [hv]
  clear hn hBA hcell hr he hv hi
  go_enter Tryd.func53, Tryd.ntmps53
  go_wp2_with (go_at_call 71; refine h54.mono ?_; rintro e w' ⟨rfl, hbel⟩)
  go_ret
  exact ⟨rfl, hbel⟩
end Go.Proofs.YthkmacgjekienaaDoor.P
/- bytes.Trim at blanks, by hand: whatever the capacity. -/
namespace Go.Proofs.YthkmacgjekienaaDoor.P
open Go.RowKit Go.Proofs.YthkmacgjekienaaDoorW.PrintWords Go.Proofs.YthkmacgjekienaaDoorW.PrintLast Go.Proofs.YthkmacgjekienaaDoorW.PrintMore
set_option linter.unusedVariables false
set_option linter.unusedSimpArgs false
def isBl (x : Int) : Bool := (x == 32) || (x == 9)
theorem contains73 (b : Nat) (x : Int) (v : Bool) (w : World) (h0 : 0 ≤ x) (h1 : x < 256) (hc : w.cell? ⟨b, x.toNat, none⟩ = some (.bool v)) :
    Calls Tryd.prog 90 #[.pointer (some ⟨b, 0, none⟩), .int .u8 x] w fun e w' => e = .returned (.bool v) ∧ w' = w := by
  have hx : (UInt8.ofNat x.toNat).toNat = x.toNat := by rw [UInt8.toNat_ofNat']; omega
  have := Any.bytes_asciiSet_contains (P := Tryd.prog) (ρ := Tryd.laysV6_ren) { Tryd.laysV6 with } b (UInt8.ofNat x.toNat) v w (by rw [hx]; exact hc)
  rw [hx, show ((x.toNat : Nat) : Int) = x by omega] at this
  exact this
set_option maxRecDepth 1000000 in
set_option maxHeartbeats 4000000 in
theorem trimLeft_c (A : Option Addr) (c : Nat) (l : List Int) (b : Nat) (w : World) (hr : Kd.C (Kd.int .u8) w A l.length l) (hc : l.length ≤ c) (hb : ∀ x ∈ l, 0 ≤ x ∧ x < 256)
    (hset : ∀ x : Int, 0 ≤ x → x < 256 → w.cell? ⟨b, x.toNat, none⟩ = some (.bool (isBl x))) :
    Calls Tryd.prog 75 #[.slice A l.length c, .pointer (some ⟨b, 0, none⟩)] w fun e w' => w = w' ∧ ∃ A' c', e = .returned (.slice A' (l.dropWhile isBl).length c') ∧ (l.dropWhile isBl).length ≤ c' ∧ Kd.C (Kd.int .u8) w A' (l.dropWhile isBl).length (l.dropWhile isBl) := by
  have HS := Aside0.mk hset
  have HR := Aside0.mk hr
  have HB := Aside0.mk hb
  clear hset hr hb
  obtain ⟨res, hres⟩ : ∃ r, r = l.dropWhile isBl := ⟨_, rfl⟩
  rw [← hres]
  have HRES := Aside0.mk hres
  clear hres
  go_enter Tryd.func75, Tryd.ntmps75
  go_wp2
  go_loopg [0] l.length (fun g s0 wx => w = wx ∧ ∃ (m : List Int) (A1 : Option Addr) (c1 : Nat), m.length = g ∧ s0 = .slice A1 m.length c1 ∧ m.length ≤ c1 ∧ Aside0 (Kd.C (Kd.int .u8) w A1 m.length m) ∧ Aside0 (∀ x ∈ m, 0 ≤ x ∧ x < 256) ∧ Aside0 (res = m.dropWhile isBl))
  case atStart => exact ⟨rfl, l, A, c, rfl, rfl, hc, HR, HB, HRES⟩
  case round =>
    obtain ⟨rfl, m, A1, c1, hg, rfl, hc1, HC, HBm, HE⟩ := hrel
    cases m with
    | nil =>
      have HE2 := Aside0.mk (show res = [] from HE.out)
      clear HE
      rw [show ([] : List Int).length = 0 from rfl]
      go_wp2
      go_ret
      refine ⟨rfl, none, 0, ?_, ?_, ?_⟩
      · rw [HE2.out]; rfl
      · rw [HE2.out]; exact Nat.le_refl _
      · rw [HE2.out]; exact Kd.C_nil _ _
    | cons x t =>
      have hlen : (x :: t).length = t.length + 1 := rfl
      have hx := HBm.out x (by simp)
      have HBt := Aside0.mk (show ∀ y ∈ t, 0 ≤ y ∧ y < 256 from fun y hy => HBm.out y (by simp [hy]))
      obtain ⟨ax, ex, hcell⟩ := Kd.at_int HC.out 0 (by omega) (by rw [hlen]; omega)
      subst ex
      rw [show rd (x :: t) 0 = x from rfl] at hcell
      have cc := contains73 b x (isBl x) w hx.1 hx.2 (HS.out x hx.1 hx.2)
      have hDr := Kd.C_drop (k := Kd.int .u8) (m := 1) (c := c1) HC.out (by rw [hlen]; omega) hc1
      rw [show 1 * (Kd.int .u8).sz = 1 from rfl, show List.drop 1 (x :: t) = t from rfl] at hDr
      have HD := Aside0.mk hDr
      clear hDr
      rw [show ax.add (0 : Int).toNat = ax from by simp [Addr.add]] at hcell
      rw [hlen] at hc1 ⊢
      cases hq : isBl x
      · have HE2 := Aside0.mk (show res = x :: t from by rw [HE.out, List.dropWhile_cons, hq]; rfl)
        rw [hq] at cc
        clear HE
        go_wp2_with (go_at_call 90; refine cc.mono ?_; rintro e w' ⟨rfl, rfl⟩)
        go_ret
        refine ⟨rfl, some ax, c1, ?_, ?_, ?_⟩
        · rw [HE2.out]; rfl
        · rw [HE2.out]; exact hc1
        · rw [HE2.out]; exact HC.out
      · have HE2 := Aside0.mk (show res = t.dropWhile isBl from by rw [HE.out, List.dropWhile_cons, hq]; rfl)
        rw [hq] at cc
        clear HE
        obtain ⟨g', rfl⟩ : ∃ g', gk = g' + 1 := ⟨gk - 1, by rw [hlen] at hg; omega⟩
        by_cases h1 : c1 = 1
        · subst h1
          have ht0 : t.length = 0 := by omega
          have HD2 := Aside0.mk (show Kd.C (Kd.int .u8) w (some ax) t.length t from by have := HD.out; rw [if_pos rfl] at this; exact this)
          clear HD
          go_wp2_with (go_at_call 90; refine cc.mono ?_; rintro e w' ⟨rfl, rfl⟩)
          go_roundg g'
          case measure => omega
          case rel => exact ⟨rfl, t, some ax, 0, by rw [hlen] at hg; omega, (by simp [ht0]), by omega, HD2, HBt, HE2⟩
        · have HD2 := Aside0.mk (show Kd.C (Kd.int .u8) w (some (ax.add 1)) t.length t from by have := HD.out; rw [if_neg h1] at this; exact this)
          clear HD
          go_wp2_with (go_at_call 90; refine cc.mono ?_; rintro e w' ⟨rfl, rfl⟩)
          go_roundg g'
          case measure => omega
          case rel => exact ⟨rfl, t, some (ax.add 1), c1 - 1, by rw [hlen] at hg; omega, (by first | rfl | (simp; done)), by omega, HD2, HBt, HE2⟩
def trimK (v : List Int) : Nat := (Lib.trimRightS (Lib.bytesOf v) [32, 9]).length
def trimI (v : List Int) : List Int := (v.take (trimK v)).dropWhile isBl
theorem trimK_le (v : List Int) : trimK v ≤ v.length := by
  unfold trimK Lib.trimRightS
  rw [List.length_reverse]
  have := (List.dropWhile_sublist (fun x => List.contains [32, 9] x) (l := (Lib.bytesOf v).reverse)).length_le
  rw [List.length_reverse, Lib.bytesOf_length] at this
  exact this
theorem set_bl (x : Int) (h0 : 0 ≤ x) (h1 : x < 256) : List.contains [32, 9] (UInt8.ofNat x.toNat) = isBl x := by
  obtain ⟨n, rfl⟩ := Int.eq_ofNat_of_zero_le h0
  have hn : n < 256 := by omega
  have : ∀ n : Nat, n < 256 → List.contains [32, 9] (UInt8.ofNat ((n : Int)).toNat) = isBl (n : Int) := by decide +kernel
  exact this n hn
set_option maxRecDepth 1000000 in
set_option maxHeartbeats 4000000 in
theorem trim_c (A : Option Addr) (c : Nat) (l : List Int) (w : World) (hr : Kd.C (Kd.int .u8) w A l.length l) (hc : l.length ≤ c) (hb : ∀ x ∈ l, 0 ≤ x ∧ x < 256) :
    Calls Tryd.prog 57 #[.slice A l.length c, .string ⟨#[32, 9]⟩] w fun e w' => (∃ A' c', e = .returned (.slice A' (trimI l).length c') ∧ (trimI l).length ≤ c' ∧ Kd.C (Kd.int .u8) w' A' (trimI l).length (trimI l)) ∧ Below w.heap.size w w' := by
  cases l with
  | nil =>
    rw [show ([] : List Int).length = 0 from rfl]
    go_enter Tryd.func57, Tryd.ntmps57
    go_wp2
    go_ret
    exact ⟨⟨none, 0, rfl, Nat.le_refl _, Kd.C_nil _ _⟩, Below.refl _ _⟩
  | cons x0 t0 =>
    generalize hl : x0 :: t0 = l at hr hc hb
    have hpos : 0 < l.length := by rw [← hl]; simp
    clear hl
    have h27 : (Tryd.prog.info? (Tryd.laysV6_ren.t 27)).map (fun i => (i.zero, i.size)) = some (some (.agg (Array.replicate 256 (.bool false))), 256) := by kernel_rfl
    have hv27 := (zero_of_info h27).1
    have hi27 := (zero_of_info h27).2
    have hM := Any.bytes_makeASCIISet (P := Tryd.prog) (ρ := Tryd.laysV6_ren) { Tryd.laysV6 with } hv27 hi27 ⟨#[32, 9]⟩ w (by decide) (fun j b h => by have := List.mem_of_getElem? h; simp at this; rcases this with rfl | rfl <;> decide)
    rw [show (⟨#[32, 9]⟩ : ByteArray).data.toList = [32, 9] from rfl] at hM
    have hM' : Calls Tryd.prog 74 #[.string ⟨#[32, 9]⟩] w fun e w' => e = .returned (.tuple #[.agg (Lib.setCells [32, 9]), .bool true]) ∧ w' = w.alloc (.cells (Lib.setCells [32, 9]) (Tryd.laysV6_ren.t 27)) := hM
    have hn0 : ((l.length : Int) == 0) = false := beq_eq_false_iff_ne.2 (by omega)
    have hsc : (storeCells ⟨w.heap.size + 1, 0, none⟩ (Lib.setCells [32, 9]).toList 0).run Tryd.prog ((w.alloc (.cells (Lib.setCells [32, 9]) (Tryd.laysV6_ren.t 27))).alloc (.cells Tryd.zeroCells96 96)) = .ok () ((w.alloc (.cells (Lib.setCells [32, 9]) (Tryd.laysV6_ren.t 27))).alloc (.cells (Lib.setCells [32, 9]) 96)) := by
      have := run_storeCells_new (P := Tryd.prog) (w.alloc (.cells (Lib.setCells [32, 9]) (Tryd.laysV6_ren.t 27))) 96 Tryd.zeroCells96 (Lib.setCells [32, 9]) (by rw [Lib.setCells_size]; exact hi27) (by rw [Lib.setCells_size]; kernel_rfl) (Lib.setCells_one _)
      rw [alloc_size] at this
      exact this
    have hB2 : Below w.heap.size w ((w.alloc (.cells (Lib.setCells [32, 9]) (Tryd.laysV6_ren.t 27))).alloc (.cells (Lib.setCells [32, 9]) 96)) := below_alloc (below_alloc (Below.refl _ _) _) _
    have hcellAt : ∀ x : UInt8, ((w.alloc (.cells (Lib.setCells [32, 9]) (Tryd.laysV6_ren.t 27))).alloc (.cells (Lib.setCells [32, 9]) 96)).cell? ⟨w.heap.size + 1, x.toNat, none⟩ = some (.bool (List.contains [32, 9] x)) := fun x => by
      rw [World.cell?_alloc_at _ _ _ _ (by simp), Lib.setCells_at]
    generalize (w.alloc (.cells (Lib.setCells [32, 9]) (Tryd.laysV6_ren.t 27))).alloc (.cells (Lib.setCells [32, 9]) 96) = W2 at hsc hB2 hcellAt
    have hr2 := Kd.C_below hr hB2
    have hTR : Calls Tryd.prog 76 #[.slice A l.length c, .pointer (some ⟨w.heap.size + 1, 0, none⟩)] W2 fun e w' => e = .returned (.slice A (trimK l) c) ∧ w' = W2 :=
      Any.bytes_trimRightASCII (P := Tryd.prog) (ρ := Tryd.laysV6_ren) { Tryd.laysV6 with } A l.length c (Lib.bytesOf l) (w.heap.size + 1) [32, 9] W2 (Lib.bytesOf_length l) hc hr.2.1 ((bytesIn_of_C hr2).at8 rfl hb) hcellAt
    have hk := trimK_le l
    have hlt : (l.take (trimK l)).length = trimK l := by rw [List.length_take]; omega
    have hTL := trimLeft_c A c (l.take (trimK l)) (w.heap.size + 1) W2 (Kd.C_take hr2 hk) (by omega) (fun x hx => hb x (List.mem_of_mem_take hx)) (fun x h0 h1 => by
      have := hcellAt (UInt8.ofNat x.toNat)
      rw [show (UInt8.ofNat x.toNat).toNat = x.toNat by rw [UInt8.toNat_ofNat']; omega, set_bl x h0 h1] at this
      exact this)
    rw [hlt] at hTL
    change Calls Tryd.prog 75 _ W2 (fun e w' => W2 = w' ∧ ∃ A' c', e = .returned (.slice A' (trimI l).length c') ∧ (trimI l).length ≤ c' ∧ Kd.C (Kd.int .u8) W2 A' (trimI l).length (trimI l)) at hTL
    have HB2 := Aside0.mk hB2
    clear hcellAt hr2 hr hb hk hlt h27 hv27 hi27 hM hB2
    generalize trimK l = K at hTR hTL
    generalize trimI l = T at hTL ⊢
    go_enter Tryd.func57, Tryd.ntmps57
    go_wp2_with (go_at_call 74; refine hM'.mono ?_; rintro e w' ⟨rfl, hw⟩; rw [hw])
    go_wp2_with (first | (go_at_call 76; refine hTR.mono ?_; rintro e w' ⟨rfl, hw⟩; rw [hw]) | (go_at_call 75; refine hTL.mono ?_; rintro e w' ⟨rfl, A', c', rfl, hT1, hT2⟩))
    go_ret
    exact ⟨⟨A', c', rfl, hT1, hT2⟩, HB2.out⟩
end Go.Proofs.YthkmacgjekienaaDoor.P
/- head.line, by hand: a line's name and value. -/
namespace Go.Proofs.YthkmacgjekienaaDoor.P
open Go.RowKit Go.Proofs.YthkmacgjekienaaDoorW.PrintWords Go.Proofs.YthkmacgjekienaaDoorW.PrintLast Go.Proofs.YthkmacgjekienaaDoorW.PrintMore
set_option linter.unusedVariables false
set_option linter.unusedSimpArgs false
def valI (c : Int) : Bool := (c == 9) || (decide (32 ≤ c) && decide (c ≤ 126))
theorem inVal_is (c : Int) : head_inValue.f c = some (valI c) := by
  unfold head_inValue.f valI
  by_cases h : c = 9
  · subst h; rfl
  · rw [if_neg h, beq_eq_false_iff_ne.mpr h]
    by_cases h2 : 32 ≤ c
    · rw [if_pos h2, decide_eq_true h2]; simp
    · rw [if_neg h2, decide_eq_false h2]; simp
/-- A line's name and value. -/
def lineF (l : List Int) : Option (List Int × List Int) :=
  if Lib.index (Lib.bytesOf l) [58] < 0 then none else if (Lib.index (Lib.bytesOf l) [58]).toNat = 0 then none
  else if (l.take (Lib.index (Lib.bytesOf l) [58]).toNat).all nameI = true then
    (if (l.drop ((Lib.index (Lib.bytesOf l) [58]).toNat + 1)).all valI = true then some (l.take (Lib.index (Lib.bytesOf l) [58]).toNat, trimI (l.drop ((Lib.index (Lib.bytesOf l) [58]).toNat + 1))) else none) else none
def lineRes (o : Option (List Int × List Int)) (e : Ending) (w' : World) : Prop := match o with
  | none => e = .returned (.tuple #[.string ⟨#[]⟩, .slice none 0 0, .bool false])
  | some (n, v) => ∃ A c, e = .returned (.tuple #[.string (strOfNums n), .slice A v.length c, .bool true]) ∧ v.length ≤ c ∧ Kd.C (Kd.int .u8) w' A v.length v
theorem drop_C {w : World} {ad : Addr} {c m : Nat} {l : List Int} (h : Kd.C (Kd.int .u8) w (some ad) l.length l) (hc : l.length ≤ c) (hm : m ≤ l.length) :
    ∃ A', Lib.fromV (some ad) l.length c m = .slice A' (l.drop m).length (c - m) ∧ (l.drop m).length ≤ c - m ∧ ∀ W, Below w.heap.size w W → Kd.C (Kd.int .u8) W A' (l.drop m).length (l.drop m) := by
  have z := Kd.C_drop (k := Kd.int .u8) (m := m) h hm hc
  rw [show m * (Kd.int .u8).sz = m from Nat.mul_one m] at z
  refine ⟨_, by unfold Lib.fromV; rw [List.length_drop], by rw [List.length_drop]; omega, fun W hW => Kd.C_below z hW⟩
theorem conv_str (ad : Addr) (n : List Int) (c : Nat) (W : World) (h : Kd.C (Kd.int .u8) W (some ad) n.length n) (h0 : 0 < n.length) : (convert 27 9 (.slice (some ad) n.length c)).run Tryd.prog W = .ok (.string (strOfNums n)) W := by
  obtain ⟨b, o, e, hc⟩ := (bytesIn_of_C h).at h0
  cases e
  exact run_convert_bytes_arg W 27 5 Tryd.underlying27 Tryd.underlying5 b o n.length c n rfl hc 9 Tryd.underlying9
set_option maxRecDepth 1000000 in
set_option maxHeartbeats 4000000 in
theorem line_c (ad : Addr) (c : Nat) (l : List Int) (w : World) (hr : Kd.C (Kd.int .u8) w (some ad) l.length l) (hc : l.length ≤ c) (hb : ∀ x ∈ l, 0 ≤ x ∧ x < 256) (hs : l.length < 4294967281) (hT : TAB w) :
    Calls Tryd.prog 43 #[.slice (some ad) l.length c] w fun e w' => lineRes (lineF l) e w' ∧ Below w.heap.size w w' := by
  have kc := fun (w : World) (C : Array Value) (n c : Nat) => Lib.run_convert_bytes_const (P := Tryd.prog) w 27 5 C n c Tryd.underlying27 Tryd.underlying5
  have b1 : Below w.heap.size w (w.alloc (.cells #[.int .u8 58] 5 (1, 2))) := below_alloc (Below.refl _ _) _
  have l1 : Kd.C (Kd.int .u8) (w.alloc (.cells #[.int .u8 58] 5 (1, 2))) (some ⟨w.heap.size, 0, none⟩) [(58 : Int)].length [58] := lit_V w 5 [58] (by decide) (1, 2)
  have HT1 := hT.below b1
  obtain ⟨m, hm⟩ := HT1.maxLen
  have cc := Tryd.bytes_Cut_all (some ad) (some ⟨w.heap.size, 0, none⟩) l.length c 1 1 l [58] m _ rfl rfl hb (by decide) (bytesIn_of_C (Kd.C_below hr b1)) (bytesIn_of_C l1) (fun h => by cases h) hc hs (by decide) hm
  rw [show Lib.bytesOf [58] = [58] from rfl] at cc
  have h2 : 0 ≤ Lib.index (Lib.bytesOf l) [58] → Lib.index (Lib.bytesOf l) [58] + 1 ≤ l.length := fun h => by
    have := Lib.index_room _ _ h; rw [Lib.bytesOf_length] at this; exact this
  unfold lineF
  by_cases hi : Lib.index (Lib.bytesOf l) [58] < 0
  · rw [if_pos hi]
    unfold Lib.cutV at cc
    rw [if_neg (by omega)] at cc
    have HB1 := Aside0.mk b1
    clear hm l1 HT1 hT hr hb h2 hi b1
    go_enter Tryd.func43, Tryd.ntmps43
    go_wp2_with (go_at_call 42; refine cc.mono ?_; rintro e w' ⟨rfl, q, rfl⟩)
    go_ret3
    exact ⟨rfl, pw_below_drewN HB1.out _⟩
  · rw [if_neg hi]
    obtain ⟨i, hi2⟩ := Int.eq_ofNat_of_zero_le (show 0 ≤ Lib.index (Lib.bytesOf l) [58] by omega)
    have hroom := h2 (by omega)
    rw [hi2] at cc hroom ⊢
    unfold Lib.cutV at cc
    rw [if_pos (by omega), Int.toNat_natCast] at cc
    simp only [Int.toNat_natCast]
    have hil : i + 1 ≤ l.length := by omega
    obtain ⟨vA, hfrom, hvc, hvC⟩ := drop_C (c := c) (m := i + 1) hr hc hil
    rw [hfrom] at cc
    have hnC := Kd.C_take (k := Kd.int .u8) (m := i) hr (by omega)
    have hnl : (l.take i).length = i := by rw [List.length_take]; omega
    have hvb : ∀ x ∈ l.drop (i + 1), 0 ≤ x ∧ x < 256 := fun x hx => hb x (List.mem_of_mem_drop hx)
    have hnb : ∀ x ∈ l.take i, 0 ≤ x ∧ x < 256 := fun x hx => hb x (List.mem_of_mem_take hx)
    generalize l.drop (i + 1) = v at cc hvc hvC hvb ⊢
    have HB1 := Aside0.mk b1
    by_cases h0 : i = 0
    · rw [if_pos h0]
      subst h0
      clear hm l1 HT1 hT hr hb h2 hi b1 hvC hnC hvb hnb hi2 hnl
      go_enter Tryd.func43, Tryd.ntmps43
      go_wp2_with (go_at_call 42; refine cc.mono ?_; rintro e w' ⟨rfl, q, rfl⟩)
      go_ret3
      exact ⟨rfl, pw_below_drewN HB1.out _⟩
    · rw [if_neg h0]
      have e0 : ((i : Int) == 0) = false := beq_eq_false_iff_ne.mpr (by omega)
      generalize hnn : l.take i = n at hnC hnl hnb ⊢
      have hnpos : 0 < n.length := by omega
      have cC : ∀ W, Below w.heap.size w W → Calls Tryd.prog 53 #[.slice (some ad) i c, .func (.func 54) #[] #[]] W fun e w' => e = .returned (.bool (!n.all nameI)) ∧ Below W.heap.size W w' := fun W hW => by
        have := contains_c (some ad) c n W (Kd.C_below hnC hW) (by omega) hnpos hnb (hT.below hW)
        rw [hnl] at this
        exact this
      by_cases ha : n.all nameI = true
      · rw [if_pos ha]
        rw [ha] at cC
        have ct : ∀ W, Below w.heap.size w W → Calls Tryd.prog 57 #[.slice vA v.length (c - (i + 1)), .string ⟨#[32, 9]⟩] W fun e w' => (∃ A' c', e = .returned (.slice A' (trimI v).length c') ∧ (trimI v).length ≤ c' ∧ Kd.C (Kd.int .u8) w' A' (trimI v).length (trimI v)) ∧ Below W.heap.size W w' := fun W hW => trim_c vA _ v W (hvC W hW) hvc hvb
        have cv : ∀ W, Below w.heap.size w W → (convert 27 9 (.slice (some ad) i c)).run Tryd.prog W = .ok (.string (strOfNums n)) W := fun W hW => by
          have := conv_str ad n c W (Kd.C_below hnC hW) hnpos
          rw [hnl] at this
          exact this
        obtain ⟨R, hR⟩ : ∃ R, R = (if v.all valI = true then some (n, trimI v) else none) := ⟨_, rfl⟩
        rw [← hR]
        have HRR := Aside0.mk hR
        clear hR
        have HVC := Aside0.mk hvC
        have HCT := Aside0.mk ct
        have HCV := Aside0.mk cv
        have HCC := Aside0.mk cC
        have hvm : v.length ≤ 9223372036854775807 := (hvC w (Below.refl _ _)).2.1
        clear hm l1 HT1 hT hr hb h2 hi b1 hvC hnC hvb hnb hi2 hnl ha hnn ct cv cC hfrom
        go_enter Tryd.func43, Tryd.ntmps43
        go_wp2_with (first | (go_at_call 42; refine cc.mono ?_; rintro e w' ⟨rfl, q, rfl⟩) | (go_at_call 53; refine (HCC.out _ (pw_below_drewN HB1.out _)).mono ?_; rintro e w2 ⟨rfl, hb2⟩))
        have HB2 := Aside0.mk (below_step (pw_below_drewN HB1.out q) hb2)
        clear hb2
        go_loopg [30] v.length (fun g s30 wx => ∃ k : Nat, k + g = v.length ∧ s30 = .int .i64 k ∧ Aside0 ((v.drop k).all valI = v.all valI) ∧ Aside0 (Below w.heap.size w wx))
        case atStart => exact ⟨0, by omega, rfl, ⟨rfl⟩, HB2⟩
        case round =>
          obtain ⟨k, hkg, rfl, HK, HBr⟩ := hrel
          by_cases hlt : k < v.length
          · obtain ⟨g', rfl⟩ : ∃ g', gk = g' + 1 := ⟨gk - 1, by omega⟩
            obtain ⟨ax, ex, hx⟩ := Kd.at_int (HVC.out wr HBr.out) k (by omega) (by omega)
            have hrd : rd v k = v[k] := by simp [rd, List.getD, hlt]
            have hval := inVal_is (rd v k)
            have hkk := HK.out
            rw [List.drop_eq_getElem_cons hlt, List.all_cons, ← hrd] at hkk
            subst ex
            simp only [Int.toNat_natCast] at hx
            cases hq : valI (rd v k)
            · rw [hq] at hval hkk
              have HE := Aside0.mk (show ¬ v.all valI = true from by rw [← hkk]; simp)
              clear hkk hrd
              go_wp2_with (go_at_call 56; refine (head_inValue.calls _ false _ hval).mono ?_; rintro e w' ⟨rfl, nd, rfl⟩)
              go_ret3
              rw [HRR.out, if_neg HE.out]
              exact ⟨rfl, pw_below_drewN HBr.out _⟩
            · rw [hq] at hval hkk
              have HK' := Aside0.mk (show (v.drop (k + 1)).all valI = v.all valI from by rw [← hkk]; simp)
              clear hkk hrd
              go_wp2_with (go_at_call 56; refine (head_inValue.calls _ true _ hval).mono ?_; rintro e w' ⟨rfl, nd, rfl⟩)
              go_roundg g'
              case measure => omega
              case rel => exact ⟨k + 1, by omega, by go_num, HK', ⟨pw_below_drewN HBr.out _⟩⟩
          · have HE := Aside0.mk (show v.all valI = true from by rw [← HK.out, List.drop_of_length_le (by omega)]; rfl)
            have hkn : ¬ ((k : Int) < (v.length : Int)) := by omega
            go_wp2
            refine start_ (n := 7) (S := fun w' => (convert 27 9 (.slice (some ad) i c)).run Tryd.prog w' = .ok (.string (strOfNums n)) w') (ds := []) #[false, false, false, false, false, false, false] (by kernel_rfl) rfl rfl (HCV.out _ (HBr.out.drew)) (fun hHeld => ?_)
            refine pure_ (i := 0) (N := some 38) (v := ?_) (a' := ?_) #[true, false, false, false, false, false, false] rfl rfl (by kernel_rfl) (fun _ _ _ h => h) (Or.inl ⟨by rfl, ?_⟩) ?_ ?_
            rotate_left
            · intro w'
              go_simp
              with_reducible rfl
            rotate_left
            · simp only [Act.put, List.setIfInBounds_toArray, List.set_cons_zero, List.set_cons_succ, i64_w, i32_w]
              rfl
            refine pure_ (i := 2) (N := some 40) (v := ?_) (a' := ?_) #[true, false, true, false, false, false, false] rfl rfl (by kernel_rfl) (fun _ _ _ h => h) (Or.inl ⟨by rfl, ?_⟩) ?_ ?_
            rotate_left
            · intro w'
              go_simp
              with_reducible rfl
            rotate_left
            · simp only [Act.put, List.setIfInBounds_toArray, List.set_cons_zero, List.set_cons_succ, i64_w, i32_w]
              rfl
            refine take_ (i := 1) (N := some 39) (v := ?_) (a' := ?_) #[true, true, true, false, false, false, false] rfl rfl (by kernel_rfl) (fun _ _ _ h => h) (Or.inl ⟨by rfl, ?_⟩) hHeld ?_ ?_
            rotate_left
            · intro w' s0
              go_simp
              with_reducible rfl
            rotate_left
            · simp only [Act.put, List.setIfInBounds_toArray, List.set_cons_zero, List.set_cons_succ, i64_w, i32_w]
              rfl
            refine one_ (i := 3) (N := some 41) #[true, true, true, true, false, false, false] rfl rfl (by kernel_rfl) (by decide) (fun K hK => ?_)
            refine goes_ Tryd.func57 (by kernel_rfl) rfl #[.slice vA v.length (c - (i + 1)), .string ⟨#[32, 9]⟩] (by rfl) rfl rfl (by (try simp only [List.map_toArray, List.map_cons, List.map_nil]); first | done | rfl) ?_
            refine (HCT.out _ (HBr.out.drew)).mono ?_
            rintro e w3 ⟨⟨A', c', rfl, ht1, ht2⟩, hb3⟩
            refine ⟨_, rfl, ?_⟩
            have HB4 := Aside0.mk (below_step (HBr.out.drew) hb3)
            have HS0_ := HCV.out w3 HB4.out
            refine hK.out _ _ (HS0_) (fun hHeld => ?_)
            clear hK K
            refine norm_ (a' := ?_) ?_ ?_
            rotate_left
            · show Act.put _ (some 41) _ = _
              simp only [Act.put, List.setIfInBounds_toArray, List.set_cons_zero, List.set_cons_succ, i64_w, i32_w]
              rfl
            refine pure_ (i := 4) (N := some 2) (v := ?_) (a' := ?_) #[true, true, true, true, true, false, false] rfl rfl (by kernel_rfl) (fun _ _ _ h => h) (Or.inl ⟨by rfl, ?_⟩) ?_ ?_
            rotate_left
            · intro w'
              go_simp
              with_reducible rfl
            rotate_left
            · simp only [Act.put, List.setIfInBounds_toArray, List.set_cons_zero, List.set_cons_succ, i64_w, i32_w]
              rfl
            refine pure_ (i := 5) (N := some 3) (v := ?_) (a' := ?_) #[true, true, true, true, true, true, false] rfl rfl (by kernel_rfl) (fun _ _ _ h => h) (Or.inl ⟨by rfl, ?_⟩) ?_ ?_
            rotate_left
            · intro w'
              go_simp
              with_reducible rfl
            rotate_left
            · simp only [Act.put, List.setIfInBounds_toArray, List.set_cons_zero, List.set_cons_succ, i64_w, i32_w]
              rfl
            refine pure_ (i := 6) (N := some 4) (v := ?_) (a' := ?_) #[true, true, true, true, true, true, true] rfl rfl (by kernel_rfl) (fun _ _ _ h => h) (Or.inl ⟨by rfl, ?_⟩) ?_ ?_
            rotate_left
            · intro w'
              go_simp
              with_reducible rfl
            rotate_left
            · simp only [Act.put, List.setIfInBounds_toArray, List.set_cons_zero, List.set_cons_succ, i64_w, i32_w]
              rfl
            refine done_ (by kernel_rfl) ?_
            go_wp2
            go_ret3
            rw [HRR.out, if_pos HE.out]
            exact ⟨⟨A', c', rfl, ht1, ht2⟩, HB4.out⟩
      · rw [if_neg ha]
        rw [show n.all nameI = false from by simpa using ha] at cC
        clear hm l1 HT1 hT hr hb h2 hi b1 hvC hnC hvb hnb hi2 hnl ha hnn
        go_enter Tryd.func43, Tryd.ntmps43
        go_wp2_with (first | (go_at_call 42; refine cc.mono ?_; rintro e w' ⟨rfl, q, rfl⟩) | (go_at_call 53; refine (cC _ (pw_below_drewN HB1.out _)).mono ?_; rintro e w2 ⟨rfl, hb2⟩))
        go_ret3
        exact ⟨rfl, below_step (pw_below_drewN HB1.out _) hb2⟩
end Go.Proofs.YthkmacgjekienaaDoor.P
