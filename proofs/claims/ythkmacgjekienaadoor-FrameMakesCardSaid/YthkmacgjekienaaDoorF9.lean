/- A body with its header. -/
import Derived.Test.YthkmacgjekienaaDoorF8
namespace Go.Proofs.YthkmacgjekienaaDoor.P
attribute [-simp] List.length_drop List.length_take ByteArray.size_append
open Go.RowKit Go.Shelf Go.Proofs.YthkmacgjekienaaDoor.Pure Go.Proofs.YthkmacgjekienaaDoorW.PrintWords Go.Proofs.YthkmacgjekienaaDoorW.PrintLast Go.Proofs.YthkmacgjekienaaDoorW.PrintMore
set_option linter.unusedVariables false
set_option linter.unusedSimpArgs false
/-- a row of bytes with room behind it, all of which may be written -/
structure Sp (w : World) (b n cap : Nat) (l : List Int) : Prop where
  len : l.length = n
  le : n ≤ cap
  max : n ≤ 140737488355328
  cell : ∀ (j : Nat) (x : Int), l[j]? = some x → w.cell? ⟨b, j, none⟩ = some (.int .u8 x)
  room : ∀ j, j < cap → (w.cell? ⟨b, j, none⟩).isSome = true ∧ w.frozen? ⟨b, j, none⟩ = false
theorem Sp.C {w : World} {b n cap : Nat} {l : List Int} (h : Sp w b n cap l) : Kd.C (Kd.int .u8) w (some ⟨b, 0, none⟩) n l := by
  have hl := h.len
  subst hl
  exact C_of_cells (by have := h.max; omega) fun j x hx => by rw [add_plain]; exact h.cell j x hx
section
variable {P : Program} {ops : Array Oper} {rest : List Oper} {o o1 o2 : Oper} {a : Act} {Q : Exit → Act → World → Prop} {W : World}
theorem Sp_bytes (W : World) (s : ByteArray) (hs : s.size ≤ 140737488355328) : Sp (Lib.bytesWorld W 5 s) W.heap.size s.size (grownCap W s.size 0 5) (bytesOf s) := by
  have hb := Lib.bytesWorld_at_new W 5 s
  refine ⟨bytesOf_length s, grownCap_ge _ _ _ _, hs, fun j x hx => ?_, fun j hj => ?_⟩
  · have hj : j < s.size := by have := (List.getElem?_eq_some_iff.1 hx).1; rw [bytesOf_length] at this; exact this
    rw [Lib.bytesWorld_cell W 5 s j hj]
    congr 2
    unfold bytesOf at hx
    rw [List.getElem?_map] at hx
    have hj2 : j < s.data.toList.length := by rw [Array.length_toList]; exact hj
    rw [List.getElem?_eq_getElem hj2] at hx
    simp at hx
    subst hx
    have hj3 : j < s.data.size := hj
    simp [List.getD]
    rw [Array.getElem?_eq_getElem hj3]
    rfl
  · have hsz : (Lib.bytesCells W 5 s).size = grownCap W s.size 0 5 := by
      have := grownCap_ge W s.size 0 5
      unfold Lib.bytesCells
      simp
      have h2 : s.data.size = s.size := rfl
      omega
    unfold World.cell? World.frozen?
    rw [hb]
    simp only [hsz]
    refine ⟨?_, ?_⟩
    · simp [hsz, hj]
    · simp; omega
theorem conv_sp (hgd : o.guard = none) (s : Operand) (ho : o.op = .convert 9 27 s) (b : ByteArray) (hx : a.eval s = .string b) (hs : b.size ≤ 140737488355328)
    (h : ∀ cap, Sp (Lib.bytesWorld W 5 b) W.heap.size b.size cap (bytesOf b) → Below W.heap.size W (Lib.bytesWorld W 5 b) → wpList Tryd.prog ops Q rest (a.put o.dst (.slice (some ⟨W.heap.size, 0, none⟩) b.size cap)) (Lib.bytesWorld W 5 b)) : wpList Tryd.prog ops Q (o :: rest) a W := by
  refine Kd.event_run hgd ?_ (h _ (Sp_bytes W b hs) (bytes_below (Below.refl _ _) (Nat.le_refl _) _ _))
  unfold execOp
  simp only [ho, hx]
  simp [Lib.run_convert_string_bytes W 9 27 5 b Tryd.underlying9 Tryd.underlying27 Tryd.underlying5]
end
def hdS (u : Nat) : ByteArray := (((⟨#[67, 111, 110, 116, 101, 110, 116, 45, 76, 101, 110, 103, 116, 104, 58, 32]⟩ : ByteArray) ++ txt u) ++ (⟨#[13, 10]⟩ : ByteArray)) ++ (⟨#[13, 10]⟩ : ByteArray)
theorem hdS_bytes (u : Nat) : bytesOf (hdS u) = hdOf u := mk_bytes u
theorem hdS_size (u : Nat) : (hdS u).size = (hdOf u).length := by rw [← hdS_bytes, bytesOf_length]
set_option maxRecDepth 100000 in
set_option maxHeartbeats 1000000 in
theorem make_sp (u : Nat) (hu : u ≤ 65536) (w : World) (hT : TAB2 w) : Calls Tryd.prog 35 #[.int .i64 u] w fun e w' => ∃ b cap, e = .returned (.tuple #[.slice (some ⟨b, 0, none⟩) (hdOf u).length cap, .int .i64 0]) ∧ Sp w' b (hdOf u).length cap (hdOf u) ∧ w.heap.size ≤ b ∧ Below w.heap.size w w' := by
  have HC := Aside0.mk (digits_Text.calls (u : Int) (txt u) 0 w hT (by have := text_is (u : Int) (by omega) (by omega); rw [Int.toNat_natCast] at this; exact this))
  have c1 : decide (65536 < u) = false := decide_eq_false (by omega)
  have e0 : ((0 : Int) != 0) = false := rfl
  have hts := txt_size u
  have hnl := nd_small_len u hu
  have c5 : (9223372036854775807 < 16 + (txt u).size) = False := eq_false (by omega)
  have c6 : (9223372036854775807 < 16 + (txt u).size + 2) = False := eq_false (by omega)
  have c7 : (9223372036854775807 < 16 + (txt u).size + 2 + 2) = False := eq_false (by omega)
  have hz : (hdS u).size ≤ 140737488355328 := by rw [hdS_size]; have := hd_len u hu; omega
  have HZ := Aside0.mk hz
  clear hT hts hnl hz
  go_enter Tryd.func35, Tryd.ntmps35
  go_wp2_with (first
    | (go_at_call 39; (with_reducible refine HC.out.mono ?_); rintro e w1 ⟨rfl, hb1⟩; have HB1 := Aside0.mk hb1; clear hb1)
    | ((with_reducible refine gate_dst (N := 20) rfl ?_); refine conv_sp rfl (.tmp 19) rfl (hdS u) rfl HZ.out ?_; intro cap hsp hb2; rw [hdS_size, hdS_bytes] at hsp; have HSP := Aside0.mk hsp; have HB2 := Aside0.mk hb2; clear hsp hb2))
  go_ret2
  refine ⟨_, _, ?_, HSP.out, HB1.out.size, below_step HB1.out HB2.out⟩
  rw [← hdS_size]
  rfl
theorem make_no (n : Int) (h : 65536 < n) (w : World) : Calls Tryd.prog 35 #[.int .i64 n] w fun e w' => e = .returned (.tuple #[.slice none 0 0, .int .i64 9]) ∧ Below w.heap.size w w' := by
  have c1 : decide (65536 < n) = true := decide_eq_true h
  go_enter Tryd.func35, Tryd.ntmps35
  go_wp2
  go_ret2
  exact ⟨rfl, Below.refl _ _⟩
def hdS2 (u : Nat) : ByteArray := ((⟨#[67, 111, 110, 116, 101, 110, 116, 45, 76, 101, 110, 103, 116, 104, 58, 32]⟩ : ByteArray) ++ txt u) ++ (⟨#[13, 10, 13, 10]⟩ : ByteArray)
theorem hdS2_bytes (u : Nat) : bytesOf (hdS2 u) = hdOf u := by
  unfold hdS2
  rw [bytesOf_app, bytesOf_app, txt_bytes]
  simp [bytesOf, hdOf, lns, clOf]
theorem hdS2_size (u : Nat) : (hdS2 u).size = (hdOf u).length := by rw [← hdS2_bytes, bytesOf_length]
set_option maxRecDepth 100000 in
set_option maxHeartbeats 1000000 in
theorem refMake_sp (u : Nat) (hu : u ≤ 65536) (w : World) : Calls Tryd.prog 36 #[.int .i64 u] w fun e w' => ∃ b cap, e = .returned (.tuple #[.slice (some ⟨b, 0, none⟩) (hdOf u).length cap, .int .i64 0]) ∧ Sp w' b (hdOf u).length cap (hdOf u) ∧ w.heap.size ≤ b ∧ Below w.heap.size w w' := by
  obtain ⟨k, hk⟩ := refText_ev (u : Int) (by omega) (by omega)
  rw [Int.toNat_natCast] at hk
  have HC := Aside0.mk (colophonref05_Text.calls k (u : Int) (txt u) 0 w (hk k (Nat.le_refl _)))
  have c0 : decide ((u : Int) < 0) = false := decide_eq_false (by omega)
  have c1 : decide (65536 < u) = false := decide_eq_false (by omega)
  have hts := txt_size u
  have hnl := nd_small_len u hu
  have c5 : (9223372036854775807 < 16 + (txt u).size) = False := eq_false (by omega)
  have c6 : (9223372036854775807 < 16 + (txt u).size + 4) = False := eq_false (by omega)
  have hz : (hdS2 u).size ≤ 140737488355328 := by rw [hdS2_size]; have := hd_len u hu; omega
  have HZ := Aside0.mk hz
  clear hk hts hnl hz
  go_enter Tryd.func36, Tryd.ntmps36
  go_wp2_with (first
    | (go_at_call 40; (with_reducible refine HC.out.mono ?_); rintro e w1 ⟨rfl, hb1⟩; have HB1 := Aside0.mk hb1; clear hb1)
    | ((with_reducible refine gate_dst (N := 20) rfl ?_); refine conv_sp rfl (.tmp 19) rfl (hdS2 u) rfl HZ.out ?_; intro cap hsp hb2; rw [hdS2_size, hdS2_bytes] at hsp; have HSP := Aside0.mk hsp; have HB2 := Aside0.mk hb2; clear hsp hb2))
  go_ret2
  refine ⟨_, _, ?_, HSP.out, HB1.out.size, below_step HB1.out HB2.out⟩
  rw [← hdS2_size]
  rfl
theorem refMake_no (n : Int) (h : 65536 < n) (w : World) : Calls Tryd.prog 36 #[.int .i64 n] w fun e w' => e = .returned (.tuple #[.slice none 0 0, .int .i64 9]) ∧ Below w.heap.size w w' := by
  have c0 : decide (n < 0) = false := decide_eq_false (by omega)
  have c1 : decide (65536 < n) = true := decide_eq_true h
  go_enter Tryd.func36, Tryd.ntmps36
  go_wp2
  go_ret2
  exact ⟨rfl, Below.refl _ _⟩
theorem grown_setCells (b : Nat) : ∀ (vs : List Value) (o : Nat) (w : World), w.grownBy (w.setCells b o vs) (some b)
  | [], _, w => World.grownBy.refl w _
  | v :: r, o, w => by
    rw [World.setCells]
    have h1 : w.grownBy (w.setCell ⟨b, o, none⟩ v) (some b) := ⟨rfl, rfl, rfl, (KeepsWalks.setCell w _ v).size, fun k _ hk => Below.heap_setCell _ _ _ k (fun e => hk (by rw [e]))⟩
    have h2 := grown_setCells b r (o + 1) (w.setCell ⟨b, o, none⟩ v)
    exact h1.trans h2
/-- append onto such a row -/
theorem sp_append {ops : Array Oper} {rest : List Oper} {o : Oper} {a : Act} {Q : Exit → Act → World → Prop} {W : World} (hg : o.guard = none) (s x : Operand) (hop : o.op = Op.call { callee := Callee.builtin Builtin.append, args := #[s, x], argTypes := #[27, 27] })
    (b n cap : Nat) (xs : List Int) (h : Sp W b n cap xs) (hs : a.eval s = .slice (some ⟨b, 0, none⟩) n cap) (A : Option Addr) (m c : Nat) (ys : List Int) (hy : ys.length = m) (hA : Kd.C (Kd.int .u8) W A m ys) (hx : a.eval x = .slice A m c) (hm : n + m ≤ 140737488355328)
    (hK : ∀ A1 c1 w1, Kd.C (Kd.int .u8) w1 (some A1) (xs ++ ys).length (xs ++ ys) → (xs ++ ys).length ≤ c1 → (A1.block = b ∨ W.heap.size ≤ A1.block) → W.grownBy w1 (some b) → wpList Tryd.prog ops Q rest (a.put o.dst (.slice (some A1) (xs ++ ys).length c1)) w1) :
    wpList Tryd.prog ops Q (o :: rest) a W := by
  have hl := h.len
  obtain ⟨i0, hi, hz0, hz1, hz2⟩ := info_parts info5
  have hlen : (xs ++ ys).length = n + m := by rw [List.length_append, hl, hy]
  rw [hlen] at hK
  refine wpList_plain hg fun K hK' => ?_
  have fin : ∀ A1 c1 w1, (Builtin.append_ #[27, 27] o.type #[.slice (some ⟨b, 0, none⟩) n cap, .slice A m c]).run Tryd.prog W = .ok (.slice (some A1) (n + m) c1) w1 → Kd.C (Kd.int .u8) w1 (some A1) (n + m) (xs ++ ys) → n + m ≤ c1 → (A1.block = b ∨ W.heap.size ≤ A1.block) → W.grownBy w1 (some b) → Oper.wp Tryd.prog o a W K Q := fun A1 c1 w1 hr h1 h2 h3 h4 => by
    unfold Oper.wp execOp
    simp only [hop, resolve, invoke, builtin, Sem.run_bind, Sem.run_pure, Result.andThen_ok, List.map_toArray, List.map_cons, List.map_nil, hs, hx, hr]
    exact hK' _ _ (hK A1 c1 w1 h1 h2 h3 h4)
  cases A with
  | none =>
    have h0 : m = 0 := by
      rcases Nat.eq_zero_or_pos m with h0 | h0
      · exact h0
      · obtain ⟨ad, h', _⟩ := hA.2.2 h0
        cases h'
    subst h0
    obtain rfl : ys = [] := List.eq_nil_of_length_eq_zero hy
    refine fin ⟨b, 0, none⟩ cap W ?_ (by rw [List.append_nil]; exact h.C) h.le (.inl rfl) (World.grownBy.refl W _)
    simp [Builtin.append_, run_underlying Tryd.underlying27, sizeOf, typeInfo, hi, Builtin.lenOf, Builtin.firstCells, h.le, storeCells]
  | some ad =>
    have hcy : ∀ j u, (nums .u8 ys)[j]? = some u → W.cell? (ad.add j) = some u := fun j u hu => by
      unfold nums at hu
      rw [List.getElem?_map, Option.map_eq_some_iff] at hu
      obtain ⟨x, hx', rfl⟩ := hu
      exact C_cell hA j x hx'
    have h1c : ∀ u ∈ nums .u8 ys, u.oneCell' = true := fun u hu => by simp only [nums, List.mem_map] at hu; obtain ⟨q, _, rfl⟩ := hu; rfl
    have hnl : (nums .u8 ys).length = m := by simp [nums, hy]
    by_cases hr : n + m ≤ cap
    · have hroom : ∀ j, j < (nums .u8 ys).length → (W.cell? ⟨b, 0 + n * i0.size + j, none⟩).isSome = true ∧ W.frozen? ⟨b, 0 + n * i0.size + j, none⟩ = false := fun j hj => by
        have := h.room (n + j) (by omega)
        rw [hz1]
        simpa using this
      have hrun := run_append_room_cells (P := Tryd.prog) (w := W) 27 o.type 5 i0 Tryd.underlying27 hi b 0 n cap ad m c (nums .u8 ys) (by rw [hnl, hz1, Nat.mul_one]) hcy h1c hr (fun j hj => (hroom j hj).1) (fun j hj => (hroom j hj).2)
      rw [hz1] at hrun
      simp only [Nat.mul_one, Nat.zero_add] at hrun
      refine fin ⟨b, 0, none⟩ cap _ hrun ?_ hr (.inl rfl) ?_
      · rw [← hlen]
        refine C_of_cells (by omega) fun j x hx' => ?_
        rw [add_plain]
        rcases Nat.lt_or_ge j n with hj | hj
        · rw [World.cell?_setCells_out b (nums .u8 ys) n W ⟨b, j, none⟩ (fun _ _ => .inl hj)]
          rw [List.getElem?_append_left (by omega)] at hx'
          exact h.cell j x hx'
        · have hj2 : j - n < (nums .u8 ys).length := by have := (List.getElem?_eq_some_iff.1 hx').1; omega
          have := World.cell?_setCells_in b (nums .u8 ys) n W (fun j hj => by have := (hroom j hj).1; rw [hz1] at this; simpa using this) (j - n) hj2
          rw [show n + (j - n) = j by omega] at this
          rw [this]
          rw [List.getElem?_append_right (by omega), hl] at hx'
          have hj3 : j - n < ys.length := by omega
          rw [List.getElem?_eq_getElem hj3] at hx'
          cases hx'
          simp [nums]
      · exact grown_setCells b (nums .u8 ys) n W
    · obtain ⟨v1, w1, hrun, h1, h2⟩ := run_append_arg_grows (P := Tryd.prog) (w := W) 27 o.type 5 i0 (.int .u8 0) 1 1 Tryd.underlying27 hi hz0 hz1 hz2 rfl (by decide) ⟨b, 0, none⟩ n cap (nums .u8 xs) (by simp [nums, hl]) (fun j u hu => by
        unfold nums at hu
        rw [List.getElem?_map, Option.map_eq_some_iff] at hu
        obtain ⟨x, hx', rfl⟩ := hu
        rw [add_plain]
        exact h.cell j x hx') ad m c (nums .u8 ys) (by rw [hnl, Nat.mul_one]) hcy (by omega) (by unfold maxLen; omega) (by omega)
      have hR : Kd.R (Kd.int .u8) 5 w1 W.heap.size (fun _ => True) v1 (xs ++ ys) := Kd.R_of_own (by
        have e : nums .u8 xs ++ nums .u8 ys = encs (Value.int .u8) (xs ++ ys) := by simp [nums, encs]
        rw [e] at h1
        rw [hlen]; exact h1) (fun _ _ => trivial)
      obtain ⟨A1, c1, rfl⟩ := Kd.R_slice hR
      obtain ⟨_, e2, e3⟩ := Kd.R_reads' hR
      rw [hlen] at hrun e2 e3
      obtain ⟨ad1, rfl, _⟩ := e3.2.2 (by omega)
      obtain ⟨g1, rfl⟩ := Kd.R_head hR
      exact fin ⟨g1, 0, none⟩ c1 w1 hrun e3 e2 (.inr (Kd.R_base hR g1 rfl)) ⟨h2.1, h2.2, h2.3, h2.size, fun k hk _ => h2.block k hk (by simp)⟩
/-- a body with its header, or that it is too long -/
def frT (l : List Int) : List Int × Int := if l.length ≤ 65536 then (hdOf l.length ++ l, 0) else ([], 5)
set_option maxRecDepth 100000 in
set_option maxHeartbeats 2000000 in
theorem frame_calls (A : Option Addr) (c n : Nat) (l : List Int) (w : World) (hn : l.length = n) (hr : Kd.C (Kd.int .u8) w A n l) (hc : n ≤ c) (hl : n ≤ 140737488351232) (hT : TAB2 w) :
    Calls Tryd.prog 27 #[.slice A n c] w fun e w' => ∃ A1 c1, e = .returned (.tuple #[.slice A1 (frT l).1.length c1, .int .i64 (frT l).2]) ∧ Kd.C (Kd.int .u8) w' A1 (frT l).1.length (frT l).1 ∧ (frT l).1.length ≤ c1 ∧ Below w.heap.size w w' ∧ ∀ ad, A1 = some ad → w.heap.size ≤ ad.block := by
  unfold frT
  rw [hn]
  by_cases h : n ≤ 65536
  · rw [if_pos h]
    have HC := Aside0.mk (make_sp n h w hT)
    have hhl := hd_len n h
    have HH := Aside0.mk hhl
    obtain ⟨hh, hhd⟩ : ∃ hh, (hdOf n).length = hh := ⟨_, rfl⟩
    rw [hhd] at HC hhl HH
    have HR := Aside0.mk hr
    have HNN := Aside0.mk h
    have HN := Aside0.mk hn
    have e0 : ((0 : Int) != 0) = false := rfl
    have hlen : (hdOf n ++ l).length = hh + n := by rw [List.length_append, hhd, hn]
    have HLEN := Aside0.mk hlen
    clear hr hl hhl hhd hlen hn hT
    go_enter Tryd.func27, Tryd.ntmps27
    go_wp2_with (first
      | (go_at_call 35; (with_reducible refine HC.out.mono ?_); rintro e w1 ⟨b, cap, rfl, hsp, hbw, hb1⟩; have HSP := Aside0.mk hsp; have HBW := Aside0.mk hbw; have HB1 := Aside0.mk hb1; clear hsp hbw hb1)
      | (at_builtin; refine sp_append rfl (.tmp 14) (.tmp 15) rfl b hh cap (hdOf n) HSP.out rfl A n c l HN.out (Kd.C_below HR.out HB1.out) rfl (by have := HH.out; have := HNN.out; omega) ?_; intro A1 c1 w2 hC hc1 hblk hg2; rw [HLEN.out] at hC hc1 ⊢; have HC2 := Aside0.mk hC; have HC1 := Aside0.mk hc1; have HBK := Aside0.mk hblk; have HG2 := Aside0.mk hg2; clear hC hc1 hblk hg2))
    go_ret2
    rw [HLEN.out]
    refine ⟨_, _, rfl, HC2.out, HC1.out, ?_, fun ad e => ?_⟩
    · exact (HB1.out.mono (Nat.le_refl _)).grown HG2.out HB1.out.size fun j e => by cases e; exact HBW.out
    · cases e
      have := HB1.out.size
      have := HBW.out
      rcases HBK.out with e | e
      · rw [e]; exact HBW.out
      · omega
  · rw [if_neg h]
    have HC := Aside0.mk (make_no (n : Int) (by omega) w)
    have e0 : ((9 : Int) != 0) = true := rfl
    clear hr hl hn hT
    go_enter Tryd.func27, Tryd.ntmps27
    go_wp2_with (go_at_call 35; (with_reducible refine HC.out.mono ?_); rintro e w1 ⟨rfl, hb1⟩)
    go_ret2
    exact ⟨none, 0, rfl, C_empty _ _, Nat.le_refl _, hb1, fun ad e => by cases e⟩
set_option maxRecDepth 100000 in
set_option maxHeartbeats 2000000 in
theorem refFrame_calls (A : Option Addr) (c n : Nat) (l : List Int) (w : World) (hn : l.length = n) (hr : Kd.C (Kd.int .u8) w A n l) (hc : n ≤ c) (hl : n ≤ 140737488351232) :
    Calls Tryd.prog 28 #[.slice A n c] w fun e w' => ∃ A1 c1, e = .returned (.tuple #[.slice A1 (frT l).1.length c1, .int .i64 (frT l).2]) ∧ Kd.C (Kd.int .u8) w' A1 (frT l).1.length (frT l).1 ∧ (frT l).1.length ≤ c1 ∧ Below w.heap.size w w' ∧ ∀ ad, A1 = some ad → w.heap.size ≤ ad.block := by
  unfold frT
  rw [hn]
  by_cases h : n ≤ 65536
  · rw [if_pos h]
    have HC := Aside0.mk (refMake_sp n h w)
    have hhl := hd_len n h
    have HH := Aside0.mk hhl
    obtain ⟨hh, hhd⟩ : ∃ hh, (hdOf n).length = hh := ⟨_, rfl⟩
    rw [hhd] at HC hhl HH
    have HR := Aside0.mk hr
    have HNN := Aside0.mk h
    have HN := Aside0.mk hn
    have e0 : ((0 : Int) != 0) = false := rfl
    have hlen : (hdOf n ++ l).length = hh + n := by rw [List.length_append, hhd, hn]
    have HLEN := Aside0.mk hlen
    clear hr hl hhl hhd hlen hn
    go_enter Tryd.func28, Tryd.ntmps28
    go_wp2_with (first
      | (go_at_call 36; (with_reducible refine HC.out.mono ?_); rintro e w1 ⟨b, cap, rfl, hsp, hbw, hb1⟩; have HSP := Aside0.mk hsp; have HBW := Aside0.mk hbw; have HB1 := Aside0.mk hb1; clear hsp hbw hb1)
      | (at_builtin; refine sp_append rfl (.tmp 14) (.tmp 15) rfl b hh cap (hdOf n) HSP.out rfl A n c l HN.out (Kd.C_below HR.out HB1.out) rfl (by have := HH.out; have := HNN.out; omega) ?_; intro A1 c1 w2 hC hc1 hblk hg2; rw [HLEN.out] at hC hc1 ⊢; have HC2 := Aside0.mk hC; have HC1 := Aside0.mk hc1; have HBK := Aside0.mk hblk; have HG2 := Aside0.mk hg2; clear hC hc1 hblk hg2))
    go_ret2
    rw [HLEN.out]
    refine ⟨_, _, rfl, HC2.out, HC1.out, ?_, fun ad e => ?_⟩
    · exact (HB1.out.mono (Nat.le_refl _)).grown HG2.out HB1.out.size fun j e => by cases e; exact HBW.out
    · cases e
      have := HB1.out.size
      have := HBW.out
      rcases HBK.out with e | e
      · rw [e]; exact HBW.out
      · omega
  · rw [if_neg h]
    have HC := Aside0.mk (refMake_no (n : Int) (by omega) w)
    have e0 : ((9 : Int) != 0) = true := rfl
    clear hr hl hn
    go_enter Tryd.func28, Tryd.ntmps28
    go_wp2_with (go_at_call 36; (with_reducible refine HC.out.mono ?_); rintro e w1 ⟨rfl, hb1⟩)
    go_ret2
    exact ⟨none, 0, rfl, C_empty _ _, Nat.le_refl _, hb1, fun ad e => by cases e⟩
end Go.Proofs.YthkmacgjekienaaDoor.P
