/- head.line, by hand: a line's name and value. -/
import Derived.Test.YtekmdbicobkffaaDoorP1
import Derived.Test.YtekmdbicobkffaaDoorS3b
namespace Go.Proofs.YtekmdbicobkffaaDoor.P
open Go.RowKit Go.Proofs.YtekmdbicobkffaaDoorW.PrintWords Go.Proofs.YtekmdbicobkffaaDoorW.PrintLast Go.Proofs.YtekmdbicobkffaaDoorW.PrintMore
set_option linter.unusedVariables false
set_option linter.unusedSimpArgs false
def valI (c : Int) : Bool := (c == 9) || (decide (32 ≤ c) && decide (c ≤ 126))
theorem inVal_is (c : Int) : head_inValue.f c = some (valI c) := by
  unfold head_inValue.f valI
  by_cases h : c = 9
  · subst h; rfl
  · rw [if_neg h, beq_eq_false_iff_ne.mpr h]
    by_cases h2 : 32 ≤ c
    · rw [if_pos h2, decide_eq_true h2]; simp
    · rw [if_neg h2, decide_eq_false h2]; simp
/-- A line's name and value. -/
def lineF (l : List Int) : Option (List Int × List Int) :=
  if Lib.index (Lib.bytesOf l) [58] < 0 then none else if (Lib.index (Lib.bytesOf l) [58]).toNat = 0 then none
  else if (l.take (Lib.index (Lib.bytesOf l) [58]).toNat).all nameI = true then
    (if (l.drop ((Lib.index (Lib.bytesOf l) [58]).toNat + 1)).all valI = true then some (l.take (Lib.index (Lib.bytesOf l) [58]).toNat, trimI (l.drop ((Lib.index (Lib.bytesOf l) [58]).toNat + 1))) else none) else none
def lineRes (o : Option (List Int × List Int)) (e : Ending) (w' : World) : Prop := match o with
  | none => e = .returned (.tuple #[.string ⟨#[]⟩, .slice none 0 0, .bool false])
  | some (n, v) => ∃ A c, e = .returned (.tuple #[.string (strOfNums n), .slice A v.length c, .bool true]) ∧ v.length ≤ c ∧ Kd.C (Kd.int .u8) w' A v.length v
theorem drop_C {w : World} {ad : Addr} {c m : Nat} {l : List Int} (h : Kd.C (Kd.int .u8) w (some ad) l.length l) (hc : l.length ≤ c) (hm : m ≤ l.length) :
    ∃ A', Lib.fromV (some ad) l.length c m = .slice A' (l.drop m).length (c - m) ∧ (l.drop m).length ≤ c - m ∧ ∀ W, Below w.heap.size w W → Kd.C (Kd.int .u8) W A' (l.drop m).length (l.drop m) := by
  have z := Kd.C_drop (k := Kd.int .u8) (m := m) h hm hc
  rw [show m * (Kd.int .u8).sz = m from Nat.mul_one m] at z
  refine ⟨_, by unfold Lib.fromV; rw [List.length_drop], by rw [List.length_drop]; omega, fun W hW => Kd.C_below z hW⟩
theorem conv_str (ad : Addr) (n : List Int) (c : Nat) (W : World) (h : Kd.C (Kd.int .u8) W (some ad) n.length n) (h0 : 0 < n.length) : (convert 22 9 (.slice (some ad) n.length c)).run Tryd.prog W = .ok (.string (strOfNums n)) W := by
  obtain ⟨b, o, e, hc⟩ := (bytesIn_of_C h).at h0
  cases e
  exact run_convert_bytes_arg W 22 5 Tryd.underlying22 Tryd.underlying5 b o n.length c n rfl hc 9 Tryd.underlying9
set_option maxRecDepth 1000000 in
set_option maxHeartbeats 4000000 in
theorem line_c (ad : Addr) (c : Nat) (l : List Int) (w : World) (hr : Kd.C (Kd.int .u8) w (some ad) l.length l) (hc : l.length ≤ c) (hb : ∀ x ∈ l, 0 ≤ x ∧ x < 256) (hs : l.length < 4294967281) (hT : TAB w) :
    Calls Tryd.prog 25 #[.slice (some ad) l.length c] w fun e w' => lineRes (lineF l) e w' ∧ Below w.heap.size w w' := by
  have kc := fun (w : World) (C : Array Value) (n c : Nat) => Lib.run_convert_bytes_const (P := Tryd.prog) w 22 5 C n c Tryd.underlying22 Tryd.underlying5
  have b1 : Below w.heap.size w (w.alloc (.cells #[.int .u8 58] 5 (1, 2))) := below_alloc (Below.refl _ _) _
  have l1 : Kd.C (Kd.int .u8) (w.alloc (.cells #[.int .u8 58] 5 (1, 2))) (some ⟨w.heap.size, 0, none⟩) [(58 : Int)].length [58] := lit_V w 5 [58] (by decide) (1, 2)
  have HT1 := hT.below b1
  obtain ⟨m, hm⟩ := HT1.maxLen
  have cc := Tryd.bytes_Cut_all (some ad) (some ⟨w.heap.size, 0, none⟩) l.length c 1 1 l [58] m _ rfl rfl hb (by decide) (bytesIn_of_C (Kd.C_below hr b1)) (bytesIn_of_C l1) (fun h => by cases h) hc hs (by decide) hm
  rw [show Lib.bytesOf [58] = [58] from rfl] at cc
  have h2 : 0 ≤ Lib.index (Lib.bytesOf l) [58] → Lib.index (Lib.bytesOf l) [58] + 1 ≤ l.length := fun h => by
    have := Lib.index_room _ _ h; rw [Lib.bytesOf_length] at this; exact this
  unfold lineF
  by_cases hi : Lib.index (Lib.bytesOf l) [58] < 0
  · rw [if_pos hi]
    unfold Lib.cutV at cc
    rw [if_neg (by omega)] at cc
    have HB1 := Aside0.mk b1
    clear hm l1 HT1 hT hr hb h2 hi b1
    go_enter Tryd.func25, Tryd.ntmps25
    go_wp2_with (go_at_call 24; refine cc.mono ?_; rintro e w' ⟨rfl, q, rfl⟩)
    go_ret3
    exact ⟨rfl, pw_below_drewN HB1.out _⟩
  · rw [if_neg hi]
    obtain ⟨i, hi2⟩ := Int.eq_ofNat_of_zero_le (show 0 ≤ Lib.index (Lib.bytesOf l) [58] by omega)
    have hroom := h2 (by omega)
    rw [hi2] at cc hroom ⊢
    unfold Lib.cutV at cc
    rw [if_pos (by omega), Int.toNat_natCast] at cc
    simp only [Int.toNat_natCast]
    have hil : i + 1 ≤ l.length := by omega
    obtain ⟨vA, hfrom, hvc, hvC⟩ := drop_C (c := c) (m := i + 1) hr hc hil
    rw [hfrom] at cc
    have hnC := Kd.C_take (k := Kd.int .u8) (m := i) hr (by omega)
    have hnl : (l.take i).length = i := by rw [List.length_take]; omega
    have hvb : ∀ x ∈ l.drop (i + 1), 0 ≤ x ∧ x < 256 := fun x hx => hb x (List.mem_of_mem_drop hx)
    have hnb : ∀ x ∈ l.take i, 0 ≤ x ∧ x < 256 := fun x hx => hb x (List.mem_of_mem_take hx)
    generalize l.drop (i + 1) = v at cc hvc hvC hvb ⊢
    have HB1 := Aside0.mk b1
    by_cases h0 : i = 0
    · rw [if_pos h0]
      subst h0
      clear hm l1 HT1 hT hr hb h2 hi b1 hvC hnC hvb hnb hi2 hnl
      go_enter Tryd.func25, Tryd.ntmps25
      go_wp2_with (go_at_call 24; refine cc.mono ?_; rintro e w' ⟨rfl, q, rfl⟩)
      go_ret3
      exact ⟨rfl, pw_below_drewN HB1.out _⟩
    · rw [if_neg h0]
      have e0 : ((i : Int) == 0) = false := beq_eq_false_iff_ne.mpr (by omega)
      generalize hnn : l.take i = n at hnC hnl hnb ⊢
      have hnpos : 0 < n.length := by omega
      have cC : ∀ W, Below w.heap.size w W → Calls Tryd.prog 36 #[.slice (some ad) i c, .func (.func 37) #[] #[]] W fun e w' => e = .returned (.bool (!n.all nameI)) ∧ Below W.heap.size W w' := fun W hW => by
        have := contains_c (some ad) c n W (Kd.C_below hnC hW) (by omega) hnpos hnb (hT.below hW)
        rw [hnl] at this
        exact this
      by_cases ha : n.all nameI = true
      · rw [if_pos ha]
        rw [ha] at cC
        have ct : ∀ W, Below w.heap.size w W → Calls Tryd.prog 40 #[.slice vA v.length (c - (i + 1)), .string ⟨#[32, 9]⟩] W fun e w' => (∃ A' c', e = .returned (.slice A' (trimI v).length c') ∧ (trimI v).length ≤ c' ∧ Kd.C (Kd.int .u8) w' A' (trimI v).length (trimI v)) ∧ Below W.heap.size W w' := fun W hW => trim_c vA _ v W (hvC W hW) hvc hvb
        have cv : ∀ W, Below w.heap.size w W → (convert 22 9 (.slice (some ad) i c)).run Tryd.prog W = .ok (.string (strOfNums n)) W := fun W hW => by
          have := conv_str ad n c W (Kd.C_below hnC hW) hnpos
          rw [hnl] at this
          exact this
        obtain ⟨R, hR⟩ : ∃ R, R = (if v.all valI = true then some (n, trimI v) else none) := ⟨_, rfl⟩
        rw [← hR]
        have HRR := Aside0.mk hR
        clear hR
        have HVC := Aside0.mk hvC
        have HCT := Aside0.mk ct
        have HCV := Aside0.mk cv
        have HCC := Aside0.mk cC
        have hvm : v.length ≤ 9223372036854775807 := (hvC w (Below.refl _ _)).2.1
        clear hm l1 HT1 hT hr hb h2 hi b1 hvC hnC hvb hnb hi2 hnl ha hnn ct cv cC hfrom
        go_enter Tryd.func25, Tryd.ntmps25
        go_wp2_with (first | (go_at_call 24; refine cc.mono ?_; rintro e w' ⟨rfl, q, rfl⟩) | (go_at_call 36; refine (HCC.out _ (pw_below_drewN HB1.out _)).mono ?_; rintro e w2 ⟨rfl, hb2⟩))
        have HB2 := Aside0.mk (below_step (pw_below_drewN HB1.out q) hb2)
        clear hb2
        go_loopg [30] v.length (fun g s30 wx => ∃ k : Nat, k + g = v.length ∧ s30 = .int .i64 k ∧ Aside0 ((v.drop k).all valI = v.all valI) ∧ Aside0 (Below w.heap.size w wx))
        case atStart => exact ⟨0, by omega, rfl, ⟨rfl⟩, HB2⟩
        case round =>
          obtain ⟨k, hkg, rfl, HK, HBr⟩ := hrel
          by_cases hlt : k < v.length
          · obtain ⟨g', rfl⟩ : ∃ g', gk = g' + 1 := ⟨gk - 1, by omega⟩
            obtain ⟨ax, ex, hx⟩ := Kd.at_int (HVC.out wr HBr.out) k (by omega) (by omega)
            have hrd : rd v k = v[k] := by simp [rd, List.getD, hlt]
            have hval := inVal_is (rd v k)
            have hkk := HK.out
            rw [List.drop_eq_getElem_cons hlt, List.all_cons, ← hrd] at hkk
            subst ex
            simp only [Int.toNat_natCast] at hx
            cases hq : valI (rd v k)
            · rw [hq] at hval hkk
              have HE := Aside0.mk (show ¬ v.all valI = true from by rw [← hkk]; simp)
              clear hkk hrd
              go_wp2_with (go_at_call 39; refine (head_inValue.calls _ false _ hval).mono ?_; rintro e w' ⟨rfl, nd, rfl⟩)
              go_ret3
              rw [HRR.out, if_neg HE.out]
              exact ⟨rfl, pw_below_drewN HBr.out _⟩
            · rw [hq] at hval hkk
              have HK' := Aside0.mk (show (v.drop (k + 1)).all valI = v.all valI from by rw [← hkk]; simp)
              clear hkk hrd
              go_wp2_with (go_at_call 39; refine (head_inValue.calls _ true _ hval).mono ?_; rintro e w' ⟨rfl, nd, rfl⟩)
              go_roundg g'
              case measure => omega
              case rel => exact ⟨k + 1, by omega, by go_num, HK', ⟨pw_below_drewN HBr.out _⟩⟩
          · have HE := Aside0.mk (show v.all valI = true from by rw [← HK.out, List.drop_of_length_le (by omega)]; rfl)
            have hkn : ¬ ((k : Int) < (v.length : Int)) := by omega
            go_wp2
            refine start_ (n := 7) (S := fun w' => (convert 22 9 (.slice (some ad) i c)).run Tryd.prog w' = .ok (.string (strOfNums n)) w') (ds := []) #[false, false, false, false, false, false, false] (by kernel_rfl) rfl rfl (HCV.out _ (HBr.out.drew)) (fun hHeld => ?_)
            refine pure_ (i := 0) (N := some 38) (v := ?_) (a' := ?_) #[true, false, false, false, false, false, false] rfl rfl (by kernel_rfl) (fun _ _ _ h => h) (Or.inl ⟨by rfl, ?_⟩) ?_ ?_
            rotate_left
            · intro w'
              go_simp
              with_reducible rfl
            rotate_left
            · simp only [Act.put, List.setIfInBounds_toArray, List.set_cons_zero, List.set_cons_succ, i64_w, i32_w]
              rfl
            refine pure_ (i := 2) (N := some 40) (v := ?_) (a' := ?_) #[true, false, true, false, false, false, false] rfl rfl (by kernel_rfl) (fun _ _ _ h => h) (Or.inl ⟨by rfl, ?_⟩) ?_ ?_
            rotate_left
            · intro w'
              go_simp
              with_reducible rfl
            rotate_left
            · simp only [Act.put, List.setIfInBounds_toArray, List.set_cons_zero, List.set_cons_succ, i64_w, i32_w]
              rfl
            refine take_ (i := 1) (N := some 39) (v := ?_) (a' := ?_) #[true, true, true, false, false, false, false] rfl rfl (by kernel_rfl) (fun _ _ _ h => h) (Or.inl ⟨by rfl, ?_⟩) hHeld ?_ ?_
            rotate_left
            · intro w' s0
              go_simp
              with_reducible rfl
            rotate_left
            · simp only [Act.put, List.setIfInBounds_toArray, List.set_cons_zero, List.set_cons_succ, i64_w, i32_w]
              rfl
            refine one_ (i := 3) (N := some 41) #[true, true, true, true, false, false, false] rfl rfl (by kernel_rfl) (by decide) (fun K hK => ?_)
            refine goes_ Tryd.func40 (by kernel_rfl) rfl #[.slice vA v.length (c - (i + 1)), .string ⟨#[32, 9]⟩] (by rfl) rfl rfl (by (try simp only [List.map_toArray, List.map_cons, List.map_nil]); first | done | rfl) ?_
            refine (HCT.out _ (HBr.out.drew)).mono ?_
            rintro e w3 ⟨⟨A', c', rfl, ht1, ht2⟩, hb3⟩
            refine ⟨_, rfl, ?_⟩
            have HB4 := Aside0.mk (below_step (HBr.out.drew) hb3)
            have HS0_ := HCV.out w3 HB4.out
            refine hK.out _ _ (HS0_) (fun hHeld => ?_)
            clear hK K
            refine norm_ (a' := ?_) ?_ ?_
            rotate_left
            · show Act.put _ (some 41) _ = _
              simp only [Act.put, List.setIfInBounds_toArray, List.set_cons_zero, List.set_cons_succ, i64_w, i32_w]
              rfl
            refine pure_ (i := 4) (N := some 2) (v := ?_) (a' := ?_) #[true, true, true, true, true, false, false] rfl rfl (by kernel_rfl) (fun _ _ _ h => h) (Or.inl ⟨by rfl, ?_⟩) ?_ ?_
            rotate_left
            · intro w'
              go_simp
              with_reducible rfl
            rotate_left
            · simp only [Act.put, List.setIfInBounds_toArray, List.set_cons_zero, List.set_cons_succ, i64_w, i32_w]
              rfl
            refine pure_ (i := 5) (N := some 3) (v := ?_) (a' := ?_) #[true, true, true, true, true, true, false] rfl rfl (by kernel_rfl) (fun _ _ _ h => h) (Or.inl ⟨by rfl, ?_⟩) ?_ ?_
            rotate_left
            · intro w'
              go_simp
              with_reducible rfl
            rotate_left
            · simp only [Act.put, List.setIfInBounds_toArray, List.set_cons_zero, List.set_cons_succ, i64_w, i32_w]
              rfl
            refine pure_ (i := 6) (N := some 4) (v := ?_) (a' := ?_) #[true, true, true, true, true, true, true] rfl rfl (by kernel_rfl) (fun _ _ _ h => h) (Or.inl ⟨by rfl, ?_⟩) ?_ ?_
            rotate_left
            · intro w'
              go_simp
              with_reducible rfl
            rotate_left
            · simp only [Act.put, List.setIfInBounds_toArray, List.set_cons_zero, List.set_cons_succ, i64_w, i32_w]
              rfl
            refine done_ (by kernel_rfl) ?_
            go_wp2
            go_ret3
            rw [HRR.out, if_pos HE.out]
            exact ⟨⟨A', c', rfl, ht1, ht2⟩, HB4.out⟩
      · rw [if_neg ha]
        rw [show n.all nameI = false from by simpa using ha] at cC
        clear hm l1 HT1 hT hr hb h2 hi b1 hvC hnC hvb hnb hi2 hnl ha hnn
        go_enter Tryd.func25, Tryd.ntmps25
        go_wp2_with (first | (go_at_call 24; refine cc.mono ?_; rintro e w' ⟨rfl, q, rfl⟩) | (go_at_call 36; refine (cC _ (pw_below_drewN HB1.out _)).mono ?_; rintro e w2 ⟨rfl, hb2⟩))
        go_ret3
        exact ⟨rfl, below_step (pw_below_drewN HB1.out _) hb2⟩
end Go.Proofs.YtekmdbicobkffaaDoor.P
