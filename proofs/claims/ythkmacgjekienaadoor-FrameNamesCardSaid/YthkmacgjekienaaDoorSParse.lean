/- head.Parse in the printed form, by hand: what a header says. -/
import Derived.Test.YthkmacgjekienaaDoorSA
namespace Go.Proofs.YthkmacgjekienaaDoor.P
open Go.RowKit Go.Proofs.YthkmacgjekienaaDoorW.PrintWords Go.Proofs.YthkmacgjekienaaDoorW.PrintLast Go.Proofs.YthkmacgjekienaaDoorW.PrintMore
set_option linter.unusedVariables false
set_option linter.unusedSimpArgs false
def fitsB (l : List Int) : Bool := l.all fun x => decide (0 ≤ x) && decide (x < 256)
theorem fits_of {l : List Int} (h : fitsB l = true) : ∀ x ∈ l, 0 ≤ x ∧ x < 256 := fun x hx => by
  have := List.all_eq_true.mp h x hx
  simpa using this
/-- The line that bytes begin with, and what stands behind it. -/
def cutF (l : List Int) : List Int × List Int :=
  if 0 ≤ Lib.index (Lib.bytesOf l) [13, 10] then (l.take (Lib.index (Lib.bytesOf l) [13, 10]).toNat, l.drop ((Lib.index (Lib.bytesOf l) [13, 10]).toNat + 2)) else (l, [])
def eqCL (n : List Int) : Bool := Lib.equalFold (Lib.bytesOf n) [67, 111, 110, 116, 101, 110, 116, 45, 76, 101, 110, 103, 116, 104]
/-- The lines: the body's length, or what is wrong. -/
def hloop (k : Nat) : Nat → List Int → Int → Option (Int × Int)
  | 0, _, _ => none
  | f + 1, rest, body => if 0 < rest.length then
      match lineF (cutF rest).1 with
      | none => some (0, 60)
      | some (n, v) => if eqCL n = true then
          (digits_Parse.f k v 65536).bind fun t => if t.2 = 5 then some (0, 5) else if t.2 = 0 then (if 0 ≤ body then (if t.1 = body then hloop k f (cutF rest).2 t.1 else some (0, 60)) else hloop k f (cutF rest).2 t.1) else some (0, 60)
        else hloop k f (cutF rest).2 body
    else some (body, 0)
def head_Parse.f (k : Nat) (l : List Int) : Option (Int × Int × Int) :=
  if fitsB l = true then
    (if (endF (l.take 512)).2 = true then
      (hloop k (l.length + 1) (l.take ((endF (l.take 512)).1 - 2).toNat) (-1)).bind fun t => if t.2 = 0 then (if t.1 < 0 then some (0, 0, 60) else some (t.1, (endF (l.take 512)).1, 0)) else some (0, 0, t.2)
    else if 512 ≤ l.length then some (0, 0, 5) else some (0, 0, 3))
  else none
theorem hloop_mono (k : Nat) : ∀ (f : Nat) (rest : List Int) (body : Int), LeO (hloop k f rest body) (hloop (k + 1) f rest body)
  | 0, _, _ => fun r h => by simp [hloop] at h
  | f + 1, rest, body => by
    intro r h
    rw [hloop] at h ⊢
    split at h
    · rename_i h0
      rw [if_pos h0]
      split at h
      · exact h
      · rename_i n v hn
        split at h
        · rename_i he
          rw [if_pos he]
          obtain ⟨t, h1, h2⟩ := Option.bind_eq_some_iff.mp h
          rw [digits_Parse.mono _ _ k _ h1, Option.bind_some]
          split at h2
          · rename_i h5; rw [if_pos h5]; exact h2
          · rename_i h5
            rw [if_neg h5]
            split at h2
            · rename_i h00
              rw [if_pos h00]
              split at h2
              · rename_i hb
                rw [if_pos hb]
                split at h2
                · rename_i hq; rw [if_pos hq]; exact hloop_mono k f _ _ _ h2
                · rename_i hq; rw [if_neg hq]; exact h2
              · rename_i hb; rw [if_neg hb]; exact hloop_mono k f _ _ _ h2
            · rename_i h00; rw [if_neg h00]; exact h2
        · rename_i he
          rw [if_neg he]
          exact hloop_mono k f _ _ _ h
    · rename_i h0
      rw [if_neg h0]
      exact h
theorem head_Parse.mono (l : List Int) (k : Nat) : LeO (head_Parse.f k l) (head_Parse.f (k + 1) l) := by
  intro r h
  unfold head_Parse.f at h ⊢
  split at h
  · rename_i h0
    rw [if_pos h0]
    split at h
    · rename_i h1
      rw [if_pos h1]
      obtain ⟨t, h2, h3⟩ := Option.bind_eq_some_iff.mp h
      rw [hloop_mono k _ _ _ _ h2, Option.bind_some]
      exact h3
    · rename_i h1
      rw [if_neg h1]
      exact h
  · cases h
theorem endF_range (l : List Int) (h : (endF l).2 = true) : 2 ≤ (endF l).1 ∧ (endF l).1 ≤ l.length := by
  unfold endF at h ⊢
  split
  · rename_i hp
    unfold Lib.hasPrefix at hp
    have := (List.isPrefixOf_iff_prefix.mp hp).length_le
    rw [Lib.bytesOf_length] at this
    simp at this
    omega
  · rename_i hp
    rw [if_neg hp] at h
    have h0 : 0 ≤ Lib.index (Lib.bytesOf l) [13, 10, 13, 10] := of_decide_eq_true h
    have := Lib.index_room _ _ h0
    rw [Lib.bytesOf_length] at this
    simp at this ⊢
    omega
theorem cut_c (ad : Addr) (c : Nat) (l : List Int) (w : World) (hr : Kd.C (Kd.int .u8) w (some ad) l.length l) (hc : l.length ≤ c) (hb : ∀ x ∈ l, 0 ≤ x ∧ x < 256) (hs : l.length < 4294967281) (hT : TAB w) (q : Option Addr) (d : Nat)
    (hq : Kd.C (Kd.int .u8) w q 2 [13, 10]) :
    ∃ (R' : Option Addr) (cr : Nat) (fl : Bool), (Calls Tryd.prog 42 #[.slice (some ad) l.length c, .slice q 2 d] w fun e w' => e = .returned (.tuple #[.slice (some ad) (cutF l).1.length c, .slice R' (cutF l).2.length cr, .bool fl]) ∧ ∃ n, w' = w.drewN n) ∧
      (cutF l).1.length ≤ c ∧ (cutF l).2.length ≤ cr ∧ (∀ W, Below w.heap.size w W → Kd.C (Kd.int .u8) W (some ad) (cutF l).1.length (cutF l).1) ∧ (∀ W, Below w.heap.size w W → Kd.C (Kd.int .u8) W R' (cutF l).2.length (cutF l).2) := by
  obtain ⟨m, hm⟩ := hT.maxLen
  have cc := Tryd.bytes_Cut_all (some ad) q l.length c 2 d l [13, 10] m w rfl rfl hb (by decide) (bytesIn_of_C hr) (bytesIn_of_C (l := [13, 10]) hq) (fun h => by cases h) hc hs (by decide) hm
  rw [show Lib.bytesOf [13, 10] = [13, 10] from rfl] at cc
  have h2 : 0 ≤ Lib.index (Lib.bytesOf l) [13, 10] → Lib.index (Lib.bytesOf l) [13, 10] + 2 ≤ l.length := fun h => by
    have := Lib.index_room _ _ h; rw [Lib.bytesOf_length] at this; exact this
  unfold cutF
  unfold Lib.cutV at cc
  by_cases hi : 0 ≤ Lib.index (Lib.bytesOf l) [13, 10]
  · have hroom := h2 hi
    rw [if_pos hi] at cc ⊢
    obtain ⟨i, hi2⟩ := Int.eq_ofNat_of_zero_le hi
    rw [hi2] at cc hroom ⊢
    simp only [Int.toNat_natCast] at cc ⊢
    obtain ⟨vA, hfrom, hvc, hvC⟩ := drop_C (c := c) (m := i + 2) hr hc (by omega)
    rw [hfrom] at cc
    have hnl : (l.take i).length = i := by rw [List.length_take]; omega
    refine ⟨vA, c - (i + 2), true, ?_, by omega, hvc, fun W hW => Kd.C_below (Kd.C_take (k := Kd.int .u8) (m := i) hr (by omega)) hW, hvC⟩
    rw [hnl]
    exact cc
  · rw [if_neg hi] at cc ⊢
    exact ⟨none, 0, false, cc, hc, Nat.le_refl _, fun W hW => Kd.C_below hr hW, fun W _ => Kd.C_nil _ _⟩
theorem cutF_facts (l : List Int) : (cutF l).1.length ≤ l.length ∧ (cutF l).2.length ≤ l.length ∧ (∀ x ∈ (cutF l).1, x ∈ l) ∧ (∀ x ∈ (cutF l).2, x ∈ l) := by
  unfold cutF
  split
  · exact ⟨by rw [List.length_take]; omega, by rw [List.length_drop]; omega, fun x hx => List.mem_of_mem_take hx, fun x hx => List.mem_of_mem_drop hx⟩
  · exact ⟨Nat.le_refl _, by simp, fun x hx => hx, fun x hx => by cases hx⟩
theorem lineF_name {l n v : List Int} (h : lineF l = some (n, v)) : n.all nameI = true ∧ n.length ≤ l.length := by
  unfold lineF at h
  split at h
  · cases h
  · split at h
    · cases h
    · split at h
      · rename_i ha
        split at h
        · simp only [Option.some.injEq, Prod.mk.injEq] at h
          obtain ⟨rfl, _⟩ := h
          exact ⟨ha, by rw [List.length_take]; omega⟩
        · cases h
      · cases h
theorem fold_c (n : List Int) (w : World) (h : n.all nameI = true) (hl : n.length ≤ 1000) :
    Calls Tryd.prog 44 #[.string (strOfNums n), .string ⟨#[67, 111, 110, 116, 101, 110, 116, 45, 76, 101, 110, 103, 116, 104]⟩] w fun e w' => e = .returned (.bool (eqCL n)) ∧ w' = w := by
  have hz := strOfNums_size n
  have := Tryd.strings_EqualFold (strOfNums n) ⟨#[67, 111, 110, 116, 101, 110, 116, 45, 76, 101, 110, 103, 116, 104]⟩ w (by omega) (fun j b hb => by
    rw [strOfNums_data, List.getElem?_map] at hb
    cases hx : n[j]? with
    | none => rw [hx] at hb; cases hb
    | some x =>
      rw [hx] at hb
      simp only [Option.map_some, Option.some.injEq] at hb
      have hm := List.all_eq_true.mp h x (List.mem_of_getElem? hx)
      have hlt : x < 128 := by
        rcases Int.lt_or_le x 128 with g | g
        · exact g
        · rw [nameI_high g] at hm; cases hm
      rw [← hb, UInt8.toNat_ofNat']
      omega) (fun j b hb => by
    have hm := List.mem_of_getElem? hb
    have : ∀ b : UInt8, b ∈ ([67, 111, 110, 116, 101, 110, 116, 45, 76, 101, 110, 103, 116, 104] : List UInt8) → b.toNat < 128 := by decide
    exact this b hm)
  rw [strOfNums_data] at this
  exact this
set_option maxRecDepth 1000000 in
set_option maxHeartbeats 8000000 in
theorem head_Parse.calls (k : Nat) (A0 : Option Addr) (c0 : Nat) (l0 : List Int) (r1 r2 r3 : Int) (w : World) (hr0 : Kd.C (Kd.int .u8) w A0 l0.length l0) (hc0 : l0.length ≤ c0) (hT : TAB w) (h : head_Parse.f k l0 = some (r1, r2, r3)) :
    Calls Tryd.prog 37 #[.slice A0 l0.length c0] w fun e w' => e = .returned (.tuple #[.int .i64 r1, .int .i64 r2, .int .i64 r3]) ∧ Below w.heap.size w w' := by
  have kc := fun (w : World) (C : Array Value) (n c : Nat) => Lib.run_convert_bytes_const (P := Tryd.prog) w 27 5 C n c Tryd.underlying27 Tryd.underlying5
  unfold head_Parse.f at h
  split at h
  · rename_i hfit
    have hb := fits_of hfit
    have hml : (l0.take 512).length = min l0.length 512 := by rw [List.length_take]; omega
    obtain ⟨M, hM⟩ : ∃ M : Nat, M = min l0.length 512 := ⟨_, rfl⟩
    have hM1 : min (l0.length : Int) 512 = (M : Int) := by omega
    have hMl : M ≤ l0.length := by omega
    have hM5 : M ≤ 512 := by omega
    have hCt : Kd.C (Kd.int .u8) w A0 (l0.take 512).length (l0.take 512) := by
      rcases Nat.le_total l0.length 512 with g | g
      · rw [List.take_of_length_le g]; exact hr0
      · exact Kd.C_take hr0 g
    have ce := end_c A0 c0 (l0.take 512) w hCt (by omega) (fun x hx => hb x (List.mem_of_mem_take hx)) (by omega) hT
    rw [show (l0.take 512).length = M by omega] at ce
    have hE2 : (endF (l0.take 512)).2 = true → 2 ≤ (endF (l0.take 512)).1 ∧ (endF (l0.take 512)).1 ≤ M := fun g => by
      have := endF_range _ g
      omega
    generalize endF (l0.take 512) = E at h ce hE2
    obtain ⟨E1, E2⟩ := E
    simp only at h ce hE2
    cases E2
    · simp only [Bool.false_eq_true, if_false] at h
      by_cases h5 : 512 ≤ l0.length
      · rw [if_pos h5] at h
        obtain ⟨rfl, rfl, rfl⟩ : (0 : Int) = r1 ∧ (0 : Int) = r2 ∧ (5 : Int) = r3 := by simpa using h
        clear hCt hE2 hr0 hb h hM hml hfit
        have h5' : (512 : Int) ≤ l0.length := by omega
        go_enter Tryd.func37, Tryd.ntmps37
        go_wp2_with (go_at_call 41; refine ce.mono ?_; rintro e w' ⟨rfl, hbel⟩)
        go_ret3
        exact ⟨rfl, hbel⟩
      · rw [if_neg h5] at h
        obtain ⟨rfl, rfl, rfl⟩ : (0 : Int) = r1 ∧ (0 : Int) = r2 ∧ (3 : Int) = r3 := by simpa using h
        clear hCt hE2 hr0 hb h hM hml hfit
        have h5' : decide ((512 : Int) ≤ l0.length) = false := decide_eq_false (by omega)
        go_enter Tryd.func37, Tryd.ntmps37
        go_wp2_with (go_at_call 41; refine ce.mono ?_; rintro e w' ⟨rfl, hbel⟩)
        go_ret3
        exact ⟨rfl, hbel⟩
    · simp only [if_true] at h
      obtain ⟨hEa, hEb⟩ := hE2 rfl
      obtain ⟨⟨rb, re⟩, hl, h⟩ := Option.bind_eq_some_iff.mp h
      obtain ⟨s, rfl⟩ := Int.eq_ofNat_of_zero_le (show 0 ≤ E1 by omega)
      have hw2 : IntKind.i64.wrap ((s : Int) - 2) = ((s - 2 : Nat) : Int) := by rw [i64_w]; unfold wrap64; omega
      rw [show ((s : Int) - 2).toNat = s - 2 by omega] at hl
      have hCs := Kd.C_take (k := Kd.int .u8) (m := s - 2) hr0 (by omega)
      have hls : (l0.take (s - 2)).length = s - 2 := by rw [List.length_take]; omega
      have HL := Aside0.mk hl
      have HCS := Aside0.mk hCs
      have HBY := Aside0.mk (show ∀ x ∈ l0.take (s - 2), 0 ≤ x ∧ x < 256 from fun x hx => hb x (List.mem_of_mem_take hx))
      have HT := Aside0.mk hT
      have HH := Aside0.mk h
      clear hCt hE2 hr0 hb h hl hCs hT hM hml hfit
      have hsc : s - 2 ≤ c0 := by omega
      go_enter Tryd.func37, Tryd.ntmps37
      go_wp2_with (go_at_call 41; refine ce.mono ?_; rintro e w1 ⟨rfl, hb1⟩)
      have HB1 := Aside0.mk hb1
      clear hb1 ce
      go_loopg [2, 3, 6] (l0.length + 1) (fun g s2 s3 s6 wx => ∃ (body : Int) (rest : List Int) (A1 : Option Addr) (c1 : Nat), s2 = .int .i64 body ∧ s3 = .int .i64 s ∧ s6 = .slice A1 rest.length c1 ∧ rest.length ≤ c1 ∧ rest.length ≤ 512 ∧ Aside0 (Kd.C (Kd.int .u8) wx A1 rest.length rest) ∧ Aside0 (∀ x ∈ rest, 0 ≤ x ∧ x < 256) ∧ Aside0 (hloop k g rest body = some (rb, re)) ∧ Aside0 (Below w.heap.size w wx))
      case atStart => exact ⟨-1, l0.take (s - 2), A0, c0, rfl, rfl, by rw [hls], by omega, by omega, ⟨Kd.C_below HCS.out HB1.out⟩, HBY, HL, HB1⟩
      case round =>
        obtain ⟨body, rest, A1, c1, rfl, rfl, rfl, hc1, h512, HC, HBr, HLo, HBw⟩ := hrel
        clear HL HCS HBY HB1 hls hMl
        obtain ⟨g', rfl⟩ : ∃ g', gk = g' + 1 := by
          cases gk with
          | zero => have := HLo.out; simp [hloop] at this
          | succ g' => exact ⟨g', rfl⟩
        have hlo := HLo.out
        rw [hloop] at hlo
        by_cases hpos : 0 < rest.length
        · obtain ⟨ad, ead, hcell⟩ := cells_of_C HC.out hpos
          clear hcell
          subst ead
          rw [if_pos hpos] at hlo
          have b2 : Below wr.heap.size wr (wr.alloc (.cells #[.int .u8 13, .int .u8 10] 5 (2, 3))) := below_alloc (Below.refl _ _) _
          have l2 : Kd.C (Kd.int .u8) (wr.alloc (.cells #[.int .u8 13, .int .u8 10] 5 (2, 3))) (some ⟨wr.heap.size, 0, none⟩) [(13 : Int), 10].length [13, 10] := lit_V wr 5 [13, 10] (by decide) (2, 3)
          have HBw2 := Aside0.mk (below_step HBw.out b2)
          have HT2 := Aside0.mk (HT.out.below HBw2.out)
          obtain ⟨R', cr, fl, hcut, hc2, hcr, hoC, hrC⟩ := cut_c ad c1 rest _ (Kd.C_below HC.out b2) hc1 HBr.out (by omega) HT2.out (some ⟨wr.heap.size, 0, none⟩) 2 l2
          obtain ⟨hf1, hf2, hf3, hf4⟩ := cutF_facts rest
          have HOB := Aside0.mk (show ∀ x ∈ (cutF rest).1, 0 ≤ x ∧ x < 256 from fun x hx => HBr.out x (hf3 x hx))
          have HRB := Aside0.mk (show ∀ x ∈ (cutF rest).2, 0 ≤ x ∧ x < 256 from fun x hx => HBr.out x (hf4 x hx))
          generalize (cutF rest).1 = one at hlo hcut hc2 hoC hf1 HOB
          generalize (cutF rest).2 = rest2 at hlo hcut hcr hrC hf2 HRB
          have hline : ∀ m, Calls Tryd.prog 43 #[.slice (some ad) one.length c1] ((wr.alloc (.cells #[.int .u8 13, .int .u8 10] 5 (2, 3))).drewN m) fun e w' => lineRes (lineF one) e w' ∧ Below ((wr.alloc (.cells #[.int .u8 13, .int .u8 10] 5 (2, 3))).drewN m).heap.size ((wr.alloc (.cells #[.int .u8 13, .int .u8 10] 5 (2, 3))).drewN m) w' := fun m =>
            line_c ad c1 one _ (hoC _ (pw_below_drewN (Below.refl _ _) m)) hc2 HOB.out (by omega) HT2.out.drewN
          have HRC := Aside0.mk hrC
          clear hf3 hf4 l2 b2 hoC hrC HLo HC HBr
          cases hln : lineF one with
          | none =>
            rw [hln] at hlo hline
            obtain ⟨rfl, rfl⟩ : (0 : Int) = rb ∧ (60 : Int) = re := by simpa using hlo
            obtain ⟨rfl, rfl, rfl⟩ : (0 : Int) = r1 ∧ (0 : Int) = r2 ∧ (60 : Int) = r3 := by simpa using HH.out
            clear hlo hln HH HT
            go_wp2_with (first | (go_at_call 42; refine hcut.mono ?_; rintro e W4 ⟨rfl, nd, rfl⟩) | (go_at_call 43; refine (hline _).mono ?_; rintro e W5 ⟨rfl, hb5⟩))
            go_ret3
            exact ⟨rfl, below_step (pw_below_drewN HBw2.out _) hb5⟩
          | some nv =>
            obtain ⟨n, v⟩ := nv
            obtain ⟨hna, hnl⟩ := lineF_name hln
            rw [hln] at hlo hline
            have hfold : ∀ W, Calls Tryd.prog 44 #[.string (strOfNums n), .string ⟨#[67, 111, 110, 116, 101, 110, 116, 45, 76, 101, 110, 103, 116, 104]⟩] W fun e w' => e = .returned (.bool (eqCL n)) ∧ w' = W := fun W => fold_c n W hna (by omega)
            simp only at hlo
            clear hna hnl hln
            cases hq : eqCL n
            · rw [hq] at hlo hfold
              simp only [Bool.false_eq_true, if_false] at hlo
              have HLN := Aside0.mk hlo
              clear hlo hq
              go_wp2_with (first | (go_at_call 42; refine hcut.mono ?_; rintro e W4 ⟨rfl, nd, rfl⟩) | (go_at_call 43; refine (hline _).mono ?_; rintro e W5 ⟨⟨Av, cv, rfl, hv1, hv2⟩, hb5⟩) | (go_at_call 44; refine (hfold _).mono ?_; rintro e W6 ⟨rfl, rfl⟩))
              go_roundg g'
              case measure => omega
              case rel => exact ⟨body, rest2, R', cr, rfl, rfl, rfl, hcr, by omega, ⟨HRC.out _ (below_step (pw_below_drewN (Below.refl _ _) _) hb5)⟩, HRB, HLN, ⟨below_step (pw_below_drewN HBw2.out _) hb5⟩⟩
            · rw [hq] at hlo hfold
              simp only [if_true] at hlo
              obtain ⟨⟨t1, t2⟩, hd, hlo2⟩ := Option.bind_eq_some_iff.mp hlo
              clear hlo
              have hlo := hlo2
              clear hlo2
              simp only at hlo
              have HD := Aside0.mk hd
              clear hd hq
              by_cases h5 : t2 = 5
              · rw [if_pos h5] at hlo
                subst h5
                obtain ⟨rfl, rfl⟩ : (0 : Int) = rb ∧ (5 : Int) = re := by simpa using hlo
                obtain ⟨rfl, rfl, rfl⟩ : (0 : Int) = r1 ∧ (0 : Int) = r2 ∧ (5 : Int) = r3 := by simpa using HH.out
                clear hlo HH HT
                go_wp2_with (first | (go_at_call 42; refine hcut.mono ?_; rintro e W4 ⟨rfl, nd, rfl⟩) | (go_at_call 43; refine (hline _).mono ?_; rintro e W5 ⟨⟨Av, cv, rfl, hv1, hv2⟩, hb5⟩) | (go_at_call 44; refine (hfold _).mono ?_; rintro e W6 ⟨rfl, rfl⟩) | (go_at_call 45; refine (digits_Parse.calls k _ _ v 65536 t1 5 _ hv2 hv1 HD.out).mono ?_; rintro e W7 ⟨rfl, ⟨nd2, rfl⟩⟩))
                go_ret3
                exact ⟨rfl, pw_below_drewN (below_step (pw_below_drewN HBw2.out _) hb5) _⟩
              · rw [if_neg h5] at hlo
                by_cases h0 : t2 = 0
                · subst h0
                  rw [if_pos rfl] at hlo
                  by_cases hbp : 0 ≤ body
                  · rw [if_pos hbp] at hlo
                    by_cases he : t1 = body
                    · rw [if_pos he] at hlo
                      subst he
                      have HLN := Aside0.mk hlo
                      clear hlo
                      go_wp2_with (first | (go_at_call 42; refine hcut.mono ?_; rintro e W4 ⟨rfl, nd, rfl⟩) | (go_at_call 43; refine (hline _).mono ?_; rintro e W5 ⟨⟨Av, cv, rfl, hv1, hv2⟩, hb5⟩) | (go_at_call 44; refine (hfold _).mono ?_; rintro e W6 ⟨rfl, rfl⟩) | (go_at_call 45; refine (digits_Parse.calls k _ _ v 65536 t1 0 _ hv2 hv1 HD.out).mono ?_; rintro e W7 ⟨rfl, ⟨nd2, rfl⟩⟩))
                      go_roundg g'
                      case measure => omega
                      case rel => exact ⟨t1, rest2, R', cr, rfl, rfl, rfl, hcr, by omega, ⟨HRC.out _ (pw_below_drewN (below_step (pw_below_drewN (Below.refl _ _) _) hb5) _)⟩, HRB, HLN, ⟨pw_below_drewN (below_step (pw_below_drewN HBw2.out _) hb5) _⟩⟩
                    · rw [if_neg he] at hlo
                      have e1 : (t1 != body) = true := bne_iff_ne.mpr he
                      obtain ⟨rfl, rfl⟩ : (0 : Int) = rb ∧ (60 : Int) = re := by simpa using hlo
                      obtain ⟨rfl, rfl, rfl⟩ : (0 : Int) = r1 ∧ (0 : Int) = r2 ∧ (60 : Int) = r3 := by simpa using HH.out
                      clear hlo HH HT
                      go_wp2_with (first | (go_at_call 42; refine hcut.mono ?_; rintro e W4 ⟨rfl, nd, rfl⟩) | (go_at_call 43; refine (hline _).mono ?_; rintro e W5 ⟨⟨Av, cv, rfl, hv1, hv2⟩, hb5⟩) | (go_at_call 44; refine (hfold _).mono ?_; rintro e W6 ⟨rfl, rfl⟩) | (go_at_call 45; refine (digits_Parse.calls k _ _ v 65536 t1 0 _ hv2 hv1 HD.out).mono ?_; rintro e W7 ⟨rfl, ⟨nd2, rfl⟩⟩))
                      go_ret3
                      exact ⟨rfl, pw_below_drewN (below_step (pw_below_drewN HBw2.out _) hb5) _⟩
                  · rw [if_neg hbp] at hlo
                    have e1 : decide (0 ≤ body) = false := decide_eq_false hbp
                    have HLN := Aside0.mk hlo
                    clear hlo
                    go_wp2_with (first | (go_at_call 42; refine hcut.mono ?_; rintro e W4 ⟨rfl, nd, rfl⟩) | (go_at_call 43; refine (hline _).mono ?_; rintro e W5 ⟨⟨Av, cv, rfl, hv1, hv2⟩, hb5⟩) | (go_at_call 44; refine (hfold _).mono ?_; rintro e W6 ⟨rfl, rfl⟩) | (go_at_call 45; refine (digits_Parse.calls k _ _ v 65536 t1 0 _ hv2 hv1 HD.out).mono ?_; rintro e W7 ⟨rfl, ⟨nd2, rfl⟩⟩))
                    go_roundg g'
                    case measure => omega
                    case rel => exact ⟨t1, rest2, R', cr, rfl, rfl, rfl, hcr, by omega, ⟨HRC.out _ (pw_below_drewN (below_step (pw_below_drewN (Below.refl _ _) _) hb5) _)⟩, HRB, HLN, ⟨pw_below_drewN (below_step (pw_below_drewN HBw2.out _) hb5) _⟩⟩
                · rw [if_neg h0] at hlo
                  have e5 : (t2 == 5) = false := beq_eq_false_iff_ne.mpr h5
                  have e0 : (t2 != 0) = true := bne_iff_ne.mpr h0
                  obtain ⟨rfl, rfl⟩ : (0 : Int) = rb ∧ (60 : Int) = re := by simpa using hlo
                  obtain ⟨rfl, rfl, rfl⟩ : (0 : Int) = r1 ∧ (0 : Int) = r2 ∧ (60 : Int) = r3 := by simpa using HH.out
                  clear hlo HH HT
                  go_wp2_with (first | (go_at_call 42; refine hcut.mono ?_; rintro e W4 ⟨rfl, nd, rfl⟩) | (go_at_call 43; refine (hline _).mono ?_; rintro e W5 ⟨⟨Av, cv, rfl, hv1, hv2⟩, hb5⟩) | (go_at_call 44; refine (hfold _).mono ?_; rintro e W6 ⟨rfl, rfl⟩) | (go_at_call 45; refine (digits_Parse.calls k _ _ v 65536 t1 t2 _ hv2 hv1 HD.out).mono ?_; rintro e W7 ⟨rfl, ⟨nd2, rfl⟩⟩))
                  go_ret3
                  exact ⟨rfl, pw_below_drewN (below_step (pw_below_drewN HBw2.out _) hb5) _⟩
        · rw [if_neg hpos] at hlo
          obtain ⟨rfl, rfl⟩ : body = rb ∧ (0 : Int) = re := by simpa using hlo
          have h00 : rest.length = 0 := by omega
          have hh := HH.out
          rw [if_pos rfl] at hh
          rw [h00]
          by_cases hbn : body < 0
          · rw [if_pos hbn] at hh
            obtain ⟨rfl, rfl, rfl⟩ : (0 : Int) = r1 ∧ (0 : Int) = r2 ∧ (60 : Int) = r3 := by simpa using hh
            clear hlo HH HT hh HLo
            go_wp2
            go_ret3
            exact ⟨rfl, HBw.out⟩
          · rw [if_neg hbn] at hh
            obtain ⟨rfl, rfl, rfl⟩ : body = r1 ∧ (s : Int) = r2 ∧ (0 : Int) = r3 := by simpa using hh
            have e1 : decide (body < 0) = false := decide_eq_false hbn
            clear hlo HH HT hh HLo
            go_wp2
            go_ret3
            exact ⟨rfl, HBw.out⟩
  · cases h
end Go.Proofs.YthkmacgjekienaaDoor.P
