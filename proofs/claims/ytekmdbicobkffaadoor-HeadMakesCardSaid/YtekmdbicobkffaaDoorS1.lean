/- head.end, by hand: where a header ends. -/
import Derived.Test.YtekmdbicobkffaaDoorP2
import Derived.Test.YtekmdbicobkffaaDoorX
import Derived.Test.YtekmdbicobkffaaDoorShelf
import Derived.WalkKit
namespace Go.Proofs.YtekmdbicobkffaaDoor.P
open Go.RowKit Go.Proofs.YtekmdbicobkffaaDoorW.PrintWords Go.Proofs.YtekmdbicobkffaaDoorW.PrintLast Go.Proofs.YtekmdbicobkffaaDoorW.PrintMore
set_option linter.unusedVariables false
set_option linter.unusedSimpArgs false
theorem bytesIn_of_C {w : World} {A : Option Addr} {l : List Int} (h : Kd.C (Kd.int .u8) w A l.length l) : Lib.BytesIn w A l.length l := by
  rcases Nat.eq_zero_or_pos l.length with h0 | h0
  · rw [h0]; exact Lib.BytesIn.nil _ _ _
  · obtain ⟨hn, hm, h2⟩ := Kd.reads_of_C (enc := Value.int .u8) (d := (0 : Int)) (h1 := fun _ => rfl) h
    obtain ⟨ad, rfl, hc⟩ := h2 h0
    exact Lib.BytesIn.of_cells hc
theorem cells_of_C {w : World} {A : Option Addr} {l : List Int} (h : Kd.C (Kd.int .u8) w A l.length l) (h0 : 0 < l.length) : ∃ ad, A = some ad ∧ ∀ i, i < l.length → w.cell? (ad.add i) = some (.int .u8 (l.getD i 0)) := by
  obtain ⟨hn, hm, h2⟩ := Kd.reads_of_C (enc := Value.int .u8) (d := (0 : Int)) (h1 := fun _ => rfl) h
  exact h2 h0
/-- '[]byte("..")' of a constant, as a step of the walk: the row that it lays. -/
theorem lit_V (W : World) (e : TypeId) (xs : List Int) (hm : xs.length ≤ 9223372036854775807) (mark : Nat × Nat) :
    Kd.C (Kd.int .u8) (W.alloc (.cells (xs.map (Value.int .u8)).toArray e mark)) (some ⟨W.heap.size, 0, none⟩) xs.length xs := by
  refine Kd.C_of_reads (d := (0 : Int)) (h1 := fun _ => rfl) ⟨rfl, hm, fun hn => ⟨_, rfl, fun j hj => ?_⟩⟩
  rw [add_plain]
  unfold World.cell?
  simp only
  rw [heap_alloc_new]
  simp [List.getD, hj]
theorem alloc_size (W : World) (o : Obj) : (W.alloc o).heap.size = W.heap.size + 1 := by simp
/-- Where the header ends that bytes begin with; false: it does not. -/
def endF (l : List Int) : Int × Bool := if Lib.hasPrefix (Lib.bytesOf l) [13, 10] = true then (2, true) else (Lib.index (Lib.bytesOf l) [13, 10, 13, 10] + 4, decide (0 ≤ Lib.index (Lib.bytesOf l) [13, 10, 13, 10]))
theorem index4 (A : Option Addr) (c : Nat) (l : List Int) (w w2 : World) (hr : Kd.C (Kd.int .u8) w2 A l.length l) (hc : l.length ≤ c) (hb : ∀ x ∈ l, 0 ≤ x ∧ x < 256) (hs : l.length < 4294967281) (hT : TAB w2) (q : Option Addr) (d : Nat)
    (hq : Kd.C (Kd.int .u8) w2 q 4 [13, 10, 13, 10]) :
    Calls Tryd.prog 35 #[.slice A l.length c, .slice q 4 d] w2 fun e w' => e = .returned (.int .i64 (Lib.index (Lib.bytesOf l) [13, 10, 13, 10])) ∧ ∃ n, w' = w2.drewN n := by
  rcases Nat.eq_zero_or_pos l.length with h0 | h0
  · obtain rfl : l = [] := List.length_eq_zero_iff.mp h0
    refine (Tryd.bytes_Index_longer A q 0 c 4 d w2 (by decide) (by decide) (by decide)).mono ?_
    rintro e w' ⟨rfl, rfl⟩
    exact ⟨rfl, 0, rfl⟩
  · obtain ⟨a1, rfl, hc1⟩ := cells_of_C hr h0
    obtain ⟨a2, rfl, hc2⟩ := cells_of_C (l := [13, 10, 13, 10]) hq (by decide)
    obtain ⟨m, hm⟩ := hT.maxLen
    exact Tryd.bytes_Index_at a1 a2 l.length c 4 d l [13, 10, 13, 10] m w2 rfl rfl hb (by decide) hc1 hc2 hc hs (by decide) hm
set_option maxRecDepth 1000000 in
set_option maxHeartbeats 1000000 in
theorem end_c (A : Option Addr) (c : Nat) (l : List Int) (w : World) (hr : Kd.C (Kd.int .u8) w A l.length l) (hc : l.length ≤ c) (hb : ∀ x ∈ l, 0 ≤ x ∧ x < 256) (hs : l.length < 4294967281) (hT : TAB w) :
    Calls Tryd.prog 23 #[.slice A l.length c] w fun e w' => e = .returned (.tuple #[.int .i64 (endF l).1, .bool (endF l).2]) ∧ Below w.heap.size w w' := by
  have kc := fun (w : World) (C : Array Value) (n c : Nat) => Lib.run_convert_bytes_const (P := Tryd.prog) w 22 5 C n c Tryd.underlying22 Tryd.underlying5
  have hB := Aside0.mk hb
  have hR := Aside0.mk hr
  have hTT := Aside0.mk hT
  clear hb hr hT
  have h2 : Lib.index (Lib.bytesOf l) [13, 10, 13, 10] + 4 ≤ l.length ∨ Lib.index (Lib.bytesOf l) [13, 10, 13, 10] = -1 := by
    rcases Int.lt_or_le (Lib.index (Lib.bytesOf l) [13, 10, 13, 10]) 0 with h | h
    · have := Lib.index_ge (Lib.bytesOf l) [13, 10, 13, 10]; right; omega
    · have := Lib.index_room _ _ h; rw [Lib.bytesOf_length] at this; left; exact this
  have h3 := Lib.index_ge (Lib.bytesOf l) [13, 10, 13, 10]
  have b1 : Below w.heap.size w (w.alloc (.cells #[.int .u8 13, .int .u8 10] 5 (2, 3))) := below_alloc (Below.refl _ _) _
  have l2 : Kd.C (Kd.int .u8) (w.alloc (.cells #[.int .u8 13, .int .u8 10] 5 (2, 3))) (some ⟨w.heap.size, 0, none⟩) [(13 : Int), 10].length [13, 10] := lit_V w 5 [13, 10] (by decide) (2, 3)
  have cp := Tryd.bytes_HasPrefix_all A (some ⟨w.heap.size, 0, none⟩) l.length c 2 2 l [13, 10] _ rfl rfl hc (bytesIn_of_C (Kd.C_below hR.out b1)) (bytesIn_of_C l2)
  rw [show Lib.bytesOf [13, 10] = [13, 10] from rfl] at cp
  unfold endF
  by_cases hp : Lib.hasPrefix (Lib.bytesOf l) [13, 10] = true
  · rw [if_pos hp]
    rw [hp] at cp
    go_enter Tryd.func23, Tryd.ntmps23
    go_wp2_with (go_at_call 34; refine cp.mono ?_; rintro e w' ⟨rfl, rfl⟩)
    go_ret2
    exact ⟨rfl, b1⟩
  · rw [if_neg hp]
    rw [show Lib.hasPrefix (Lib.bytesOf l) [13, 10] = false from by simpa using hp] at cp
    have b2 : Below w.heap.size w ((w.alloc (.cells #[.int .u8 13, .int .u8 10] 5 (2, 3))).alloc (.cells #[.int .u8 13, .int .u8 10, .int .u8 13, .int .u8 10] 5 (4, 5))) := below_alloc b1 _
    have l4 : Kd.C (Kd.int .u8) ((w.alloc (.cells #[.int .u8 13, .int .u8 10] 5 (2, 3))).alloc (.cells #[.int .u8 13, .int .u8 10, .int .u8 13, .int .u8 10] 5 (4, 5))) (some ⟨(w.alloc (.cells #[.int .u8 13, .int .u8 10] 5 (2, 3))).heap.size, 0, none⟩) [(13 : Int), 10, 13, 10].length [13, 10, 13, 10] := lit_V _ 5 [13, 10, 13, 10] (by decide) (4, 5)
    have hsz := alloc_size
    rw [hsz] at l4
    have kc2 := fun (W : World) (o : Obj) (C : Array Value) (n c : Nat) => hsz W o ▸ kc (W.alloc o) C n c
    have ci := index4 A c l w _ (Kd.C_below hR.out b2) hc hB.out hs (hTT.out.below b2) _ 4 l4
    generalize Lib.index (Lib.bytesOf l) [13, 10, 13, 10] = r at h2 h3 ci ⊢
    have hw : IntKind.i64.wrap (r + 4) = r + 4 := by rw [i64_w]; unfold wrap64; omega
    clear hp
    go_enter Tryd.func23, Tryd.ntmps23
    go_wp2_with (first | (go_at_call 34; refine cp.mono ?_; rintro e w' ⟨rfl, rfl⟩) | (go_at_call 35; refine ci.mono ?_; rintro e w' ⟨rfl, n, rfl⟩))
    go_ret2
    exact ⟨rfl, pw_below_drewN b2 _⟩
end Go.Proofs.YtekmdbicobkffaaDoor.P
