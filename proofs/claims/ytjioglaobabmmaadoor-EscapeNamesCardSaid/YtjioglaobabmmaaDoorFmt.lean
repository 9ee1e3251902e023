/- strconv.FormatInt(c, 16) for c below 32: the digits of base 16. -/
import Derived.Test.YtjioglaobabmmaaDoorShelf
import Derived.WalkKit
import Derived.WalkSpells
import Derived.WalkLawsBesides
namespace Go.Proofs.YtjioglaobabmmaaDoor.P
open Go.RowKit
set_option linter.unusedVariables false
set_option linter.unusedSimpArgs false
set_option maxHeartbeats 1000000 in
theorem pow2_16 (w : World) : Calls Tryd.prog 75 #[.int .i64 16] w fun e w' => e = .returned (.bool true) ∧ w = w' := by
  go_enter Tryd.func75, Tryd.ntmps75
  go_wp2
  go_ret
  exact ⟨rfl, rfl⟩
set_option maxHeartbeats 1000000 in
theorem tz64_16 (w : World) (h : w.cell? ⟨3, 15, none⟩ = some (.int .u8 4)) : Calls Tryd.prog 79 #[.int .u64 16] w fun e w' => e = .returned (.int .i64 4) ∧ w = w' := by
  have hidx : IntKind.u64.wrap (bits BinOp.and IntKind.u64 16 (IntKind.u64.wrap (-16)) * 285870213051353865) / 288230376151711744 = 15 := by decide +kernel
  go_enter Tryd.func79, Tryd.ntmps79
  go_wp2
  go_ret
  exact ⟨rfl, rfl⟩
set_option maxHeartbeats 1000000 in
theorem tz_16 (w : World) (h : w.cell? ⟨3, 15, none⟩ = some (.int .u8 4)) : Calls Tryd.prog 76 #[.int .u64 16] w fun e w' => e = .returned (.int .i64 4) ∧ w = w' := by
  go_enter Tryd.func76, Tryd.ntmps76
  go_wp2_with (go_at_call 79; refine (tz64_16 _ h).mono ?_; rintro e w' ⟨rfl, rfl⟩)
  go_ret
  exact ⟨rfl, rfl⟩
set_option maxHeartbeats 4000000 in
set_option maxRecDepth 100000 in
theorem fb_0 (w : World) (h : w.cell? ⟨3, 15, none⟩ = some (.int .u8 4)) : Calls Tryd.prog 64 #[.slice none 0 0, .int .u64 0, .int .i64 16, .bool false, .bool false] w fun e w' => e = .returned (.tuple #[.slice none 0 0, .string ⟨#[48]⟩]) ∧ Below w.heap.size w w' := by
  have hlt : 3 < w.heap.size := by
    rcases Nat.lt_or_ge 3 w.heap.size with h' | h'
    · exact h'
    · simp [World.cell?, Array.getElem?_eq_none h'] at h
  have ha : ∀ o, (w.alloc o).cell? ⟨3, 15, none⟩ = some (.int .u8 4) := fun o => (World.cell?_alloc_lt w o ⟨3, 15, none⟩ hlt).trans h
  go_enter Tryd.func64, Tryd.ntmps64
  go_wp2_with (first | (go_at_call 75; refine (pow2_16 _).mono ?_; rintro e w' ⟨rfl, rfl⟩) | (go_at_call 76; refine (tz_16 _ (ha _)).mono ?_; rintro e w' ⟨rfl, rfl⟩))
  refine wp_loop_rounds 1 ?_
  rw [rounds_succ]
  go_wp2
  rw [run_convert_bytes_arg _ 27 5 Tryd.underlying27 Tryd.underlying5 w.heap.size 64 1 1 [48] rfl (fun i hi => by
    rw [Lib.cell_of_heap (heap_alloc_new w _)]
    match i, hi with
    | 0, _ => rfl
    ) 9 Tryd.underlying9]
  simp only [Result.andThen]
  rw [Oper.upon_value]
  go_wp2
  go_ret2
  exact ⟨rfl, (Below.refl _ _).alloc (Nat.le_refl _) _⟩
set_option maxHeartbeats 4000000 in
set_option maxRecDepth 100000 in
theorem fb_1 (w : World) (h : w.cell? ⟨3, 15, none⟩ = some (.int .u8 4)) : Calls Tryd.prog 64 #[.slice none 0 0, .int .u64 1, .int .i64 16, .bool false, .bool false] w fun e w' => e = .returned (.tuple #[.slice none 0 0, .string ⟨#[49]⟩]) ∧ Below w.heap.size w w' := by
  have hlt : 3 < w.heap.size := by
    rcases Nat.lt_or_ge 3 w.heap.size with h' | h'
    · exact h'
    · simp [World.cell?, Array.getElem?_eq_none h'] at h
  have ha : ∀ o, (w.alloc o).cell? ⟨3, 15, none⟩ = some (.int .u8 4) := fun o => (World.cell?_alloc_lt w o ⟨3, 15, none⟩ hlt).trans h
  go_enter Tryd.func64, Tryd.ntmps64
  go_wp2_with (first | (go_at_call 75; refine (pow2_16 _).mono ?_; rintro e w' ⟨rfl, rfl⟩) | (go_at_call 76; refine (tz_16 _ (ha _)).mono ?_; rintro e w' ⟨rfl, rfl⟩))
  refine wp_loop_rounds 1 ?_
  rw [rounds_succ]
  go_wp2
  rw [run_convert_bytes_arg _ 27 5 Tryd.underlying27 Tryd.underlying5 w.heap.size 64 1 1 [49] rfl (fun i hi => by
    rw [Lib.cell_of_heap (heap_alloc_new w _)]
    match i, hi with
    | 0, _ => rfl
    ) 9 Tryd.underlying9]
  simp only [Result.andThen]
  rw [Oper.upon_value]
  go_wp2
  go_ret2
  exact ⟨rfl, (Below.refl _ _).alloc (Nat.le_refl _) _⟩
set_option maxHeartbeats 4000000 in
set_option maxRecDepth 100000 in
theorem fb_2 (w : World) (h : w.cell? ⟨3, 15, none⟩ = some (.int .u8 4)) : Calls Tryd.prog 64 #[.slice none 0 0, .int .u64 2, .int .i64 16, .bool false, .bool false] w fun e w' => e = .returned (.tuple #[.slice none 0 0, .string ⟨#[50]⟩]) ∧ Below w.heap.size w w' := by
  have hlt : 3 < w.heap.size := by
    rcases Nat.lt_or_ge 3 w.heap.size with h' | h'
    · exact h'
    · simp [World.cell?, Array.getElem?_eq_none h'] at h
  have ha : ∀ o, (w.alloc o).cell? ⟨3, 15, none⟩ = some (.int .u8 4) := fun o => (World.cell?_alloc_lt w o ⟨3, 15, none⟩ hlt).trans h
  go_enter Tryd.func64, Tryd.ntmps64
  go_wp2_with (first | (go_at_call 75; refine (pow2_16 _).mono ?_; rintro e w' ⟨rfl, rfl⟩) | (go_at_call 76; refine (tz_16 _ (ha _)).mono ?_; rintro e w' ⟨rfl, rfl⟩))
  refine wp_loop_rounds 1 ?_
  rw [rounds_succ]
  go_wp2
  rw [run_convert_bytes_arg _ 27 5 Tryd.underlying27 Tryd.underlying5 w.heap.size 64 1 1 [50] rfl (fun i hi => by
    rw [Lib.cell_of_heap (heap_alloc_new w _)]
    match i, hi with
    | 0, _ => rfl
    ) 9 Tryd.underlying9]
  simp only [Result.andThen]
  rw [Oper.upon_value]
  go_wp2
  go_ret2
  exact ⟨rfl, (Below.refl _ _).alloc (Nat.le_refl _) _⟩
set_option maxHeartbeats 4000000 in
set_option maxRecDepth 100000 in
theorem fb_3 (w : World) (h : w.cell? ⟨3, 15, none⟩ = some (.int .u8 4)) : Calls Tryd.prog 64 #[.slice none 0 0, .int .u64 3, .int .i64 16, .bool false, .bool false] w fun e w' => e = .returned (.tuple #[.slice none 0 0, .string ⟨#[51]⟩]) ∧ Below w.heap.size w w' := by
  have hlt : 3 < w.heap.size := by
    rcases Nat.lt_or_ge 3 w.heap.size with h' | h'
    · exact h'
    · simp [World.cell?, Array.getElem?_eq_none h'] at h
  have ha : ∀ o, (w.alloc o).cell? ⟨3, 15, none⟩ = some (.int .u8 4) := fun o => (World.cell?_alloc_lt w o ⟨3, 15, none⟩ hlt).trans h
  go_enter Tryd.func64, Tryd.ntmps64
  go_wp2_with (first | (go_at_call 75; refine (pow2_16 _).mono ?_; rintro e w' ⟨rfl, rfl⟩) | (go_at_call 76; refine (tz_16 _ (ha _)).mono ?_; rintro e w' ⟨rfl, rfl⟩))
  refine wp_loop_rounds 1 ?_
  rw [rounds_succ]
  go_wp2
  rw [run_convert_bytes_arg _ 27 5 Tryd.underlying27 Tryd.underlying5 w.heap.size 64 1 1 [51] rfl (fun i hi => by
    rw [Lib.cell_of_heap (heap_alloc_new w _)]
    match i, hi with
    | 0, _ => rfl
    ) 9 Tryd.underlying9]
  simp only [Result.andThen]
  rw [Oper.upon_value]
  go_wp2
  go_ret2
  exact ⟨rfl, (Below.refl _ _).alloc (Nat.le_refl _) _⟩
set_option maxHeartbeats 4000000 in
set_option maxRecDepth 100000 in
theorem fb_4 (w : World) (h : w.cell? ⟨3, 15, none⟩ = some (.int .u8 4)) : Calls Tryd.prog 64 #[.slice none 0 0, .int .u64 4, .int .i64 16, .bool false, .bool false] w fun e w' => e = .returned (.tuple #[.slice none 0 0, .string ⟨#[52]⟩]) ∧ Below w.heap.size w w' := by
  have hlt : 3 < w.heap.size := by
    rcases Nat.lt_or_ge 3 w.heap.size with h' | h'
    · exact h'
    · simp [World.cell?, Array.getElem?_eq_none h'] at h
  have ha : ∀ o, (w.alloc o).cell? ⟨3, 15, none⟩ = some (.int .u8 4) := fun o => (World.cell?_alloc_lt w o ⟨3, 15, none⟩ hlt).trans h
  go_enter Tryd.func64, Tryd.ntmps64
  go_wp2_with (first | (go_at_call 75; refine (pow2_16 _).mono ?_; rintro e w' ⟨rfl, rfl⟩) | (go_at_call 76; refine (tz_16 _ (ha _)).mono ?_; rintro e w' ⟨rfl, rfl⟩))
  refine wp_loop_rounds 1 ?_
  rw [rounds_succ]
  go_wp2
  rw [run_convert_bytes_arg _ 27 5 Tryd.underlying27 Tryd.underlying5 w.heap.size 64 1 1 [52] rfl (fun i hi => by
    rw [Lib.cell_of_heap (heap_alloc_new w _)]
    match i, hi with
    | 0, _ => rfl
    ) 9 Tryd.underlying9]
  simp only [Result.andThen]
  rw [Oper.upon_value]
  go_wp2
  go_ret2
  exact ⟨rfl, (Below.refl _ _).alloc (Nat.le_refl _) _⟩
set_option maxHeartbeats 4000000 in
set_option maxRecDepth 100000 in
theorem fb_5 (w : World) (h : w.cell? ⟨3, 15, none⟩ = some (.int .u8 4)) : Calls Tryd.prog 64 #[.slice none 0 0, .int .u64 5, .int .i64 16, .bool false, .bool false] w fun e w' => e = .returned (.tuple #[.slice none 0 0, .string ⟨#[53]⟩]) ∧ Below w.heap.size w w' := by
  have hlt : 3 < w.heap.size := by
    rcases Nat.lt_or_ge 3 w.heap.size with h' | h'
    · exact h'
    · simp [World.cell?, Array.getElem?_eq_none h'] at h
  have ha : ∀ o, (w.alloc o).cell? ⟨3, 15, none⟩ = some (.int .u8 4) := fun o => (World.cell?_alloc_lt w o ⟨3, 15, none⟩ hlt).trans h
  go_enter Tryd.func64, Tryd.ntmps64
  go_wp2_with (first | (go_at_call 75; refine (pow2_16 _).mono ?_; rintro e w' ⟨rfl, rfl⟩) | (go_at_call 76; refine (tz_16 _ (ha _)).mono ?_; rintro e w' ⟨rfl, rfl⟩))
  refine wp_loop_rounds 1 ?_
  rw [rounds_succ]
  go_wp2
  rw [run_convert_bytes_arg _ 27 5 Tryd.underlying27 Tryd.underlying5 w.heap.size 64 1 1 [53] rfl (fun i hi => by
    rw [Lib.cell_of_heap (heap_alloc_new w _)]
    match i, hi with
    | 0, _ => rfl
    ) 9 Tryd.underlying9]
  simp only [Result.andThen]
  rw [Oper.upon_value]
  go_wp2
  go_ret2
  exact ⟨rfl, (Below.refl _ _).alloc (Nat.le_refl _) _⟩
set_option maxHeartbeats 4000000 in
set_option maxRecDepth 100000 in
theorem fb_6 (w : World) (h : w.cell? ⟨3, 15, none⟩ = some (.int .u8 4)) : Calls Tryd.prog 64 #[.slice none 0 0, .int .u64 6, .int .i64 16, .bool false, .bool false] w fun e w' => e = .returned (.tuple #[.slice none 0 0, .string ⟨#[54]⟩]) ∧ Below w.heap.size w w' := by
  have hlt : 3 < w.heap.size := by
    rcases Nat.lt_or_ge 3 w.heap.size with h' | h'
    · exact h'
    · simp [World.cell?, Array.getElem?_eq_none h'] at h
  have ha : ∀ o, (w.alloc o).cell? ⟨3, 15, none⟩ = some (.int .u8 4) := fun o => (World.cell?_alloc_lt w o ⟨3, 15, none⟩ hlt).trans h
  go_enter Tryd.func64, Tryd.ntmps64
  go_wp2_with (first | (go_at_call 75; refine (pow2_16 _).mono ?_; rintro e w' ⟨rfl, rfl⟩) | (go_at_call 76; refine (tz_16 _ (ha _)).mono ?_; rintro e w' ⟨rfl, rfl⟩))
  refine wp_loop_rounds 1 ?_
  rw [rounds_succ]
  go_wp2
  rw [run_convert_bytes_arg _ 27 5 Tryd.underlying27 Tryd.underlying5 w.heap.size 64 1 1 [54] rfl (fun i hi => by
    rw [Lib.cell_of_heap (heap_alloc_new w _)]
    match i, hi with
    | 0, _ => rfl
    ) 9 Tryd.underlying9]
  simp only [Result.andThen]
  rw [Oper.upon_value]
  go_wp2
  go_ret2
  exact ⟨rfl, (Below.refl _ _).alloc (Nat.le_refl _) _⟩
set_option maxHeartbeats 4000000 in
set_option maxRecDepth 100000 in
theorem fb_7 (w : World) (h : w.cell? ⟨3, 15, none⟩ = some (.int .u8 4)) : Calls Tryd.prog 64 #[.slice none 0 0, .int .u64 7, .int .i64 16, .bool false, .bool false] w fun e w' => e = .returned (.tuple #[.slice none 0 0, .string ⟨#[55]⟩]) ∧ Below w.heap.size w w' := by
  have hlt : 3 < w.heap.size := by
    rcases Nat.lt_or_ge 3 w.heap.size with h' | h'
    · exact h'
    · simp [World.cell?, Array.getElem?_eq_none h'] at h
  have ha : ∀ o, (w.alloc o).cell? ⟨3, 15, none⟩ = some (.int .u8 4) := fun o => (World.cell?_alloc_lt w o ⟨3, 15, none⟩ hlt).trans h
  go_enter Tryd.func64, Tryd.ntmps64
  go_wp2_with (first | (go_at_call 75; refine (pow2_16 _).mono ?_; rintro e w' ⟨rfl, rfl⟩) | (go_at_call 76; refine (tz_16 _ (ha _)).mono ?_; rintro e w' ⟨rfl, rfl⟩))
  refine wp_loop_rounds 1 ?_
  rw [rounds_succ]
  go_wp2
  rw [run_convert_bytes_arg _ 27 5 Tryd.underlying27 Tryd.underlying5 w.heap.size 64 1 1 [55] rfl (fun i hi => by
    rw [Lib.cell_of_heap (heap_alloc_new w _)]
    match i, hi with
    | 0, _ => rfl
    ) 9 Tryd.underlying9]
  simp only [Result.andThen]
  rw [Oper.upon_value]
  go_wp2
  go_ret2
  exact ⟨rfl, (Below.refl _ _).alloc (Nat.le_refl _) _⟩
set_option maxHeartbeats 4000000 in
set_option maxRecDepth 100000 in
theorem fb_8 (w : World) (h : w.cell? ⟨3, 15, none⟩ = some (.int .u8 4)) : Calls Tryd.prog 64 #[.slice none 0 0, .int .u64 8, .int .i64 16, .bool false, .bool false] w fun e w' => e = .returned (.tuple #[.slice none 0 0, .string ⟨#[56]⟩]) ∧ Below w.heap.size w w' := by
  have hlt : 3 < w.heap.size := by
    rcases Nat.lt_or_ge 3 w.heap.size with h' | h'
    · exact h'
    · simp [World.cell?, Array.getElem?_eq_none h'] at h
  have ha : ∀ o, (w.alloc o).cell? ⟨3, 15, none⟩ = some (.int .u8 4) := fun o => (World.cell?_alloc_lt w o ⟨3, 15, none⟩ hlt).trans h
  go_enter Tryd.func64, Tryd.ntmps64
  go_wp2_with (first | (go_at_call 75; refine (pow2_16 _).mono ?_; rintro e w' ⟨rfl, rfl⟩) | (go_at_call 76; refine (tz_16 _ (ha _)).mono ?_; rintro e w' ⟨rfl, rfl⟩))
  refine wp_loop_rounds 1 ?_
  rw [rounds_succ]
  go_wp2
  rw [run_convert_bytes_arg _ 27 5 Tryd.underlying27 Tryd.underlying5 w.heap.size 64 1 1 [56] rfl (fun i hi => by
    rw [Lib.cell_of_heap (heap_alloc_new w _)]
    match i, hi with
    | 0, _ => rfl
    ) 9 Tryd.underlying9]
  simp only [Result.andThen]
  rw [Oper.upon_value]
  go_wp2
  go_ret2
  exact ⟨rfl, (Below.refl _ _).alloc (Nat.le_refl _) _⟩
set_option maxHeartbeats 4000000 in
set_option maxRecDepth 100000 in
theorem fb_9 (w : World) (h : w.cell? ⟨3, 15, none⟩ = some (.int .u8 4)) : Calls Tryd.prog 64 #[.slice none 0 0, .int .u64 9, .int .i64 16, .bool false, .bool false] w fun e w' => e = .returned (.tuple #[.slice none 0 0, .string ⟨#[57]⟩]) ∧ Below w.heap.size w w' := by
  have hlt : 3 < w.heap.size := by
    rcases Nat.lt_or_ge 3 w.heap.size with h' | h'
    · exact h'
    · simp [World.cell?, Array.getElem?_eq_none h'] at h
  have ha : ∀ o, (w.alloc o).cell? ⟨3, 15, none⟩ = some (.int .u8 4) := fun o => (World.cell?_alloc_lt w o ⟨3, 15, none⟩ hlt).trans h
  go_enter Tryd.func64, Tryd.ntmps64
  go_wp2_with (first | (go_at_call 75; refine (pow2_16 _).mono ?_; rintro e w' ⟨rfl, rfl⟩) | (go_at_call 76; refine (tz_16 _ (ha _)).mono ?_; rintro e w' ⟨rfl, rfl⟩))
  refine wp_loop_rounds 1 ?_
  rw [rounds_succ]
  go_wp2
  rw [run_convert_bytes_arg _ 27 5 Tryd.underlying27 Tryd.underlying5 w.heap.size 64 1 1 [57] rfl (fun i hi => by
    rw [Lib.cell_of_heap (heap_alloc_new w _)]
    match i, hi with
    | 0, _ => rfl
    ) 9 Tryd.underlying9]
  simp only [Result.andThen]
  rw [Oper.upon_value]
  go_wp2
  go_ret2
  exact ⟨rfl, (Below.refl _ _).alloc (Nat.le_refl _) _⟩
set_option maxHeartbeats 4000000 in
set_option maxRecDepth 100000 in
theorem fb_10 (w : World) (h : w.cell? ⟨3, 15, none⟩ = some (.int .u8 4)) : Calls Tryd.prog 64 #[.slice none 0 0, .int .u64 10, .int .i64 16, .bool false, .bool false] w fun e w' => e = .returned (.tuple #[.slice none 0 0, .string ⟨#[97]⟩]) ∧ Below w.heap.size w w' := by
  have hlt : 3 < w.heap.size := by
    rcases Nat.lt_or_ge 3 w.heap.size with h' | h'
    · exact h'
    · simp [World.cell?, Array.getElem?_eq_none h'] at h
  have ha : ∀ o, (w.alloc o).cell? ⟨3, 15, none⟩ = some (.int .u8 4) := fun o => (World.cell?_alloc_lt w o ⟨3, 15, none⟩ hlt).trans h
  go_enter Tryd.func64, Tryd.ntmps64
  go_wp2_with (first | (go_at_call 75; refine (pow2_16 _).mono ?_; rintro e w' ⟨rfl, rfl⟩) | (go_at_call 76; refine (tz_16 _ (ha _)).mono ?_; rintro e w' ⟨rfl, rfl⟩))
  refine wp_loop_rounds 1 ?_
  rw [rounds_succ]
  go_wp2
  rw [run_convert_bytes_arg _ 27 5 Tryd.underlying27 Tryd.underlying5 w.heap.size 64 1 1 [97] rfl (fun i hi => by
    rw [Lib.cell_of_heap (heap_alloc_new w _)]
    match i, hi with
    | 0, _ => rfl
    ) 9 Tryd.underlying9]
  simp only [Result.andThen]
  rw [Oper.upon_value]
  go_wp2
  go_ret2
  exact ⟨rfl, (Below.refl _ _).alloc (Nat.le_refl _) _⟩
set_option maxHeartbeats 4000000 in
set_option maxRecDepth 100000 in
theorem fb_11 (w : World) (h : w.cell? ⟨3, 15, none⟩ = some (.int .u8 4)) : Calls Tryd.prog 64 #[.slice none 0 0, .int .u64 11, .int .i64 16, .bool false, .bool false] w fun e w' => e = .returned (.tuple #[.slice none 0 0, .string ⟨#[98]⟩]) ∧ Below w.heap.size w w' := by
  have hlt : 3 < w.heap.size := by
    rcases Nat.lt_or_ge 3 w.heap.size with h' | h'
    · exact h'
    · simp [World.cell?, Array.getElem?_eq_none h'] at h
  have ha : ∀ o, (w.alloc o).cell? ⟨3, 15, none⟩ = some (.int .u8 4) := fun o => (World.cell?_alloc_lt w o ⟨3, 15, none⟩ hlt).trans h
  go_enter Tryd.func64, Tryd.ntmps64
  go_wp2_with (first | (go_at_call 75; refine (pow2_16 _).mono ?_; rintro e w' ⟨rfl, rfl⟩) | (go_at_call 76; refine (tz_16 _ (ha _)).mono ?_; rintro e w' ⟨rfl, rfl⟩))
  refine wp_loop_rounds 1 ?_
  rw [rounds_succ]
  go_wp2
  rw [run_convert_bytes_arg _ 27 5 Tryd.underlying27 Tryd.underlying5 w.heap.size 64 1 1 [98] rfl (fun i hi => by
    rw [Lib.cell_of_heap (heap_alloc_new w _)]
    match i, hi with
    | 0, _ => rfl
    ) 9 Tryd.underlying9]
  simp only [Result.andThen]
  rw [Oper.upon_value]
  go_wp2
  go_ret2
  exact ⟨rfl, (Below.refl _ _).alloc (Nat.le_refl _) _⟩
set_option maxHeartbeats 4000000 in
set_option maxRecDepth 100000 in
theorem fb_12 (w : World) (h : w.cell? ⟨3, 15, none⟩ = some (.int .u8 4)) : Calls Tryd.prog 64 #[.slice none 0 0, .int .u64 12, .int .i64 16, .bool false, .bool false] w fun e w' => e = .returned (.tuple #[.slice none 0 0, .string ⟨#[99]⟩]) ∧ Below w.heap.size w w' := by
  have hlt : 3 < w.heap.size := by
    rcases Nat.lt_or_ge 3 w.heap.size with h' | h'
    · exact h'
    · simp [World.cell?, Array.getElem?_eq_none h'] at h
  have ha : ∀ o, (w.alloc o).cell? ⟨3, 15, none⟩ = some (.int .u8 4) := fun o => (World.cell?_alloc_lt w o ⟨3, 15, none⟩ hlt).trans h
  go_enter Tryd.func64, Tryd.ntmps64
  go_wp2_with (first | (go_at_call 75; refine (pow2_16 _).mono ?_; rintro e w' ⟨rfl, rfl⟩) | (go_at_call 76; refine (tz_16 _ (ha _)).mono ?_; rintro e w' ⟨rfl, rfl⟩))
  refine wp_loop_rounds 1 ?_
  rw [rounds_succ]
  go_wp2
  rw [run_convert_bytes_arg _ 27 5 Tryd.underlying27 Tryd.underlying5 w.heap.size 64 1 1 [99] rfl (fun i hi => by
    rw [Lib.cell_of_heap (heap_alloc_new w _)]
    match i, hi with
    | 0, _ => rfl
    ) 9 Tryd.underlying9]
  simp only [Result.andThen]
  rw [Oper.upon_value]
  go_wp2
  go_ret2
  exact ⟨rfl, (Below.refl _ _).alloc (Nat.le_refl _) _⟩
set_option maxHeartbeats 4000000 in
set_option maxRecDepth 100000 in
theorem fb_13 (w : World) (h : w.cell? ⟨3, 15, none⟩ = some (.int .u8 4)) : Calls Tryd.prog 64 #[.slice none 0 0, .int .u64 13, .int .i64 16, .bool false, .bool false] w fun e w' => e = .returned (.tuple #[.slice none 0 0, .string ⟨#[100]⟩]) ∧ Below w.heap.size w w' := by
  have hlt : 3 < w.heap.size := by
    rcases Nat.lt_or_ge 3 w.heap.size with h' | h'
    · exact h'
    · simp [World.cell?, Array.getElem?_eq_none h'] at h
  have ha : ∀ o, (w.alloc o).cell? ⟨3, 15, none⟩ = some (.int .u8 4) := fun o => (World.cell?_alloc_lt w o ⟨3, 15, none⟩ hlt).trans h
  go_enter Tryd.func64, Tryd.ntmps64
  go_wp2_with (first | (go_at_call 75; refine (pow2_16 _).mono ?_; rintro e w' ⟨rfl, rfl⟩) | (go_at_call 76; refine (tz_16 _ (ha _)).mono ?_; rintro e w' ⟨rfl, rfl⟩))
  refine wp_loop_rounds 1 ?_
  rw [rounds_succ]
  go_wp2
  rw [run_convert_bytes_arg _ 27 5 Tryd.underlying27 Tryd.underlying5 w.heap.size 64 1 1 [100] rfl (fun i hi => by
    rw [Lib.cell_of_heap (heap_alloc_new w _)]
    match i, hi with
    | 0, _ => rfl
    ) 9 Tryd.underlying9]
  simp only [Result.andThen]
  rw [Oper.upon_value]
  go_wp2
  go_ret2
  exact ⟨rfl, (Below.refl _ _).alloc (Nat.le_refl _) _⟩
set_option maxHeartbeats 4000000 in
set_option maxRecDepth 100000 in
theorem fb_14 (w : World) (h : w.cell? ⟨3, 15, none⟩ = some (.int .u8 4)) : Calls Tryd.prog 64 #[.slice none 0 0, .int .u64 14, .int .i64 16, .bool false, .bool false] w fun e w' => e = .returned (.tuple #[.slice none 0 0, .string ⟨#[101]⟩]) ∧ Below w.heap.size w w' := by
  have hlt : 3 < w.heap.size := by
    rcases Nat.lt_or_ge 3 w.heap.size with h' | h'
    · exact h'
    · simp [World.cell?, Array.getElem?_eq_none h'] at h
  have ha : ∀ o, (w.alloc o).cell? ⟨3, 15, none⟩ = some (.int .u8 4) := fun o => (World.cell?_alloc_lt w o ⟨3, 15, none⟩ hlt).trans h
  go_enter Tryd.func64, Tryd.ntmps64
  go_wp2_with (first | (go_at_call 75; refine (pow2_16 _).mono ?_; rintro e w' ⟨rfl, rfl⟩) | (go_at_call 76; refine (tz_16 _ (ha _)).mono ?_; rintro e w' ⟨rfl, rfl⟩))
  refine wp_loop_rounds 1 ?_
  rw [rounds_succ]
  go_wp2
  rw [run_convert_bytes_arg _ 27 5 Tryd.underlying27 Tryd.underlying5 w.heap.size 64 1 1 [101] rfl (fun i hi => by
    rw [Lib.cell_of_heap (heap_alloc_new w _)]
    match i, hi with
    | 0, _ => rfl
    ) 9 Tryd.underlying9]
  simp only [Result.andThen]
  rw [Oper.upon_value]
  go_wp2
  go_ret2
  exact ⟨rfl, (Below.refl _ _).alloc (Nat.le_refl _) _⟩
set_option maxHeartbeats 4000000 in
set_option maxRecDepth 100000 in
theorem fb_15 (w : World) (h : w.cell? ⟨3, 15, none⟩ = some (.int .u8 4)) : Calls Tryd.prog 64 #[.slice none 0 0, .int .u64 15, .int .i64 16, .bool false, .bool false] w fun e w' => e = .returned (.tuple #[.slice none 0 0, .string ⟨#[102]⟩]) ∧ Below w.heap.size w w' := by
  have hlt : 3 < w.heap.size := by
    rcases Nat.lt_or_ge 3 w.heap.size with h' | h'
    · exact h'
    · simp [World.cell?, Array.getElem?_eq_none h'] at h
  have ha : ∀ o, (w.alloc o).cell? ⟨3, 15, none⟩ = some (.int .u8 4) := fun o => (World.cell?_alloc_lt w o ⟨3, 15, none⟩ hlt).trans h
  go_enter Tryd.func64, Tryd.ntmps64
  go_wp2_with (first | (go_at_call 75; refine (pow2_16 _).mono ?_; rintro e w' ⟨rfl, rfl⟩) | (go_at_call 76; refine (tz_16 _ (ha _)).mono ?_; rintro e w' ⟨rfl, rfl⟩))
  refine wp_loop_rounds 1 ?_
  rw [rounds_succ]
  go_wp2
  rw [run_convert_bytes_arg _ 27 5 Tryd.underlying27 Tryd.underlying5 w.heap.size 64 1 1 [102] rfl (fun i hi => by
    rw [Lib.cell_of_heap (heap_alloc_new w _)]
    match i, hi with
    | 0, _ => rfl
    ) 9 Tryd.underlying9]
  simp only [Result.andThen]
  rw [Oper.upon_value]
  go_wp2
  go_ret2
  exact ⟨rfl, (Below.refl _ _).alloc (Nat.le_refl _) _⟩
set_option maxHeartbeats 4000000 in
set_option maxRecDepth 100000 in
theorem fb_16 (w : World) (h : w.cell? ⟨3, 15, none⟩ = some (.int .u8 4)) : Calls Tryd.prog 64 #[.slice none 0 0, .int .u64 16, .int .i64 16, .bool false, .bool false] w fun e w' => e = .returned (.tuple #[.slice none 0 0, .string ⟨#[49, 48]⟩]) ∧ Below w.heap.size w w' := by
  have hlt : 3 < w.heap.size := by
    rcases Nat.lt_or_ge 3 w.heap.size with h' | h'
    · exact h'
    · simp [World.cell?, Array.getElem?_eq_none h'] at h
  have ha : ∀ o, (w.alloc o).cell? ⟨3, 15, none⟩ = some (.int .u8 4) := fun o => (World.cell?_alloc_lt w o ⟨3, 15, none⟩ hlt).trans h
  have hb : bits BinOp.and IntKind.u64 16 15 = 0 := by decide +kernel
  go_enter Tryd.func64, Tryd.ntmps64
  go_wp2_with (first | (go_at_call 75; refine (pow2_16 _).mono ?_; rintro e w' ⟨rfl, rfl⟩) | (go_at_call 76; refine (tz_16 _ (ha _)).mono ?_; rintro e w' ⟨rfl, rfl⟩))
  refine wp_loop_rounds 2 ?_
  rw [rounds_succ]
  go_wp2
  rw [rounds_succ]
  go_wp2
  rw [run_convert_bytes_arg _ 27 5 Tryd.underlying27 Tryd.underlying5 w.heap.size 63 2 2 [49, 48] rfl (fun i hi => by
    rw [Lib.cell_of_heap (heap_alloc_new w _)]
    match i, hi with
    | 0, _ => rfl
    | 1, _ => rfl
    ) 9 Tryd.underlying9]
  simp only [Result.andThen]
  rw [Oper.upon_value]
  go_wp2
  go_ret2
  exact ⟨rfl, (Below.refl _ _).alloc (Nat.le_refl _) _⟩
set_option maxHeartbeats 4000000 in
set_option maxRecDepth 100000 in
theorem fb_17 (w : World) (h : w.cell? ⟨3, 15, none⟩ = some (.int .u8 4)) : Calls Tryd.prog 64 #[.slice none 0 0, .int .u64 17, .int .i64 16, .bool false, .bool false] w fun e w' => e = .returned (.tuple #[.slice none 0 0, .string ⟨#[49, 49]⟩]) ∧ Below w.heap.size w w' := by
  have hlt : 3 < w.heap.size := by
    rcases Nat.lt_or_ge 3 w.heap.size with h' | h'
    · exact h'
    · simp [World.cell?, Array.getElem?_eq_none h'] at h
  have ha : ∀ o, (w.alloc o).cell? ⟨3, 15, none⟩ = some (.int .u8 4) := fun o => (World.cell?_alloc_lt w o ⟨3, 15, none⟩ hlt).trans h
  have hb : bits BinOp.and IntKind.u64 17 15 = 1 := by decide +kernel
  go_enter Tryd.func64, Tryd.ntmps64
  go_wp2_with (first | (go_at_call 75; refine (pow2_16 _).mono ?_; rintro e w' ⟨rfl, rfl⟩) | (go_at_call 76; refine (tz_16 _ (ha _)).mono ?_; rintro e w' ⟨rfl, rfl⟩))
  refine wp_loop_rounds 2 ?_
  rw [rounds_succ]
  go_wp2
  rw [rounds_succ]
  go_wp2
  rw [run_convert_bytes_arg _ 27 5 Tryd.underlying27 Tryd.underlying5 w.heap.size 63 2 2 [49, 49] rfl (fun i hi => by
    rw [Lib.cell_of_heap (heap_alloc_new w _)]
    match i, hi with
    | 0, _ => rfl
    | 1, _ => rfl
    ) 9 Tryd.underlying9]
  simp only [Result.andThen]
  rw [Oper.upon_value]
  go_wp2
  go_ret2
  exact ⟨rfl, (Below.refl _ _).alloc (Nat.le_refl _) _⟩
set_option maxHeartbeats 4000000 in
set_option maxRecDepth 100000 in
theorem fb_18 (w : World) (h : w.cell? ⟨3, 15, none⟩ = some (.int .u8 4)) : Calls Tryd.prog 64 #[.slice none 0 0, .int .u64 18, .int .i64 16, .bool false, .bool false] w fun e w' => e = .returned (.tuple #[.slice none 0 0, .string ⟨#[49, 50]⟩]) ∧ Below w.heap.size w w' := by
  have hlt : 3 < w.heap.size := by
    rcases Nat.lt_or_ge 3 w.heap.size with h' | h'
    · exact h'
    · simp [World.cell?, Array.getElem?_eq_none h'] at h
  have ha : ∀ o, (w.alloc o).cell? ⟨3, 15, none⟩ = some (.int .u8 4) := fun o => (World.cell?_alloc_lt w o ⟨3, 15, none⟩ hlt).trans h
  have hb : bits BinOp.and IntKind.u64 18 15 = 2 := by decide +kernel
  go_enter Tryd.func64, Tryd.ntmps64
  go_wp2_with (first | (go_at_call 75; refine (pow2_16 _).mono ?_; rintro e w' ⟨rfl, rfl⟩) | (go_at_call 76; refine (tz_16 _ (ha _)).mono ?_; rintro e w' ⟨rfl, rfl⟩))
  refine wp_loop_rounds 2 ?_
  rw [rounds_succ]
  go_wp2
  rw [rounds_succ]
  go_wp2
  rw [run_convert_bytes_arg _ 27 5 Tryd.underlying27 Tryd.underlying5 w.heap.size 63 2 2 [49, 50] rfl (fun i hi => by
    rw [Lib.cell_of_heap (heap_alloc_new w _)]
    match i, hi with
    | 0, _ => rfl
    | 1, _ => rfl
    ) 9 Tryd.underlying9]
  simp only [Result.andThen]
  rw [Oper.upon_value]
  go_wp2
  go_ret2
  exact ⟨rfl, (Below.refl _ _).alloc (Nat.le_refl _) _⟩
set_option maxHeartbeats 4000000 in
set_option maxRecDepth 100000 in
theorem fb_19 (w : World) (h : w.cell? ⟨3, 15, none⟩ = some (.int .u8 4)) : Calls Tryd.prog 64 #[.slice none 0 0, .int .u64 19, .int .i64 16, .bool false, .bool false] w fun e w' => e = .returned (.tuple #[.slice none 0 0, .string ⟨#[49, 51]⟩]) ∧ Below w.heap.size w w' := by
  have hlt : 3 < w.heap.size := by
    rcases Nat.lt_or_ge 3 w.heap.size with h' | h'
    · exact h'
    · simp [World.cell?, Array.getElem?_eq_none h'] at h
  have ha : ∀ o, (w.alloc o).cell? ⟨3, 15, none⟩ = some (.int .u8 4) := fun o => (World.cell?_alloc_lt w o ⟨3, 15, none⟩ hlt).trans h
  have hb : bits BinOp.and IntKind.u64 19 15 = 3 := by decide +kernel
  go_enter Tryd.func64, Tryd.ntmps64
  go_wp2_with (first | (go_at_call 75; refine (pow2_16 _).mono ?_; rintro e w' ⟨rfl, rfl⟩) | (go_at_call 76; refine (tz_16 _ (ha _)).mono ?_; rintro e w' ⟨rfl, rfl⟩))
  refine wp_loop_rounds 2 ?_
  rw [rounds_succ]
  go_wp2
  rw [rounds_succ]
  go_wp2
  rw [run_convert_bytes_arg _ 27 5 Tryd.underlying27 Tryd.underlying5 w.heap.size 63 2 2 [49, 51] rfl (fun i hi => by
    rw [Lib.cell_of_heap (heap_alloc_new w _)]
    match i, hi with
    | 0, _ => rfl
    | 1, _ => rfl
    ) 9 Tryd.underlying9]
  simp only [Result.andThen]
  rw [Oper.upon_value]
  go_wp2
  go_ret2
  exact ⟨rfl, (Below.refl _ _).alloc (Nat.le_refl _) _⟩
set_option maxHeartbeats 4000000 in
set_option maxRecDepth 100000 in
theorem fb_20 (w : World) (h : w.cell? ⟨3, 15, none⟩ = some (.int .u8 4)) : Calls Tryd.prog 64 #[.slice none 0 0, .int .u64 20, .int .i64 16, .bool false, .bool false] w fun e w' => e = .returned (.tuple #[.slice none 0 0, .string ⟨#[49, 52]⟩]) ∧ Below w.heap.size w w' := by
  have hlt : 3 < w.heap.size := by
    rcases Nat.lt_or_ge 3 w.heap.size with h' | h'
    · exact h'
    · simp [World.cell?, Array.getElem?_eq_none h'] at h
  have ha : ∀ o, (w.alloc o).cell? ⟨3, 15, none⟩ = some (.int .u8 4) := fun o => (World.cell?_alloc_lt w o ⟨3, 15, none⟩ hlt).trans h
  have hb : bits BinOp.and IntKind.u64 20 15 = 4 := by decide +kernel
  go_enter Tryd.func64, Tryd.ntmps64
  go_wp2_with (first | (go_at_call 75; refine (pow2_16 _).mono ?_; rintro e w' ⟨rfl, rfl⟩) | (go_at_call 76; refine (tz_16 _ (ha _)).mono ?_; rintro e w' ⟨rfl, rfl⟩))
  refine wp_loop_rounds 2 ?_
  rw [rounds_succ]
  go_wp2
  rw [rounds_succ]
  go_wp2
  rw [run_convert_bytes_arg _ 27 5 Tryd.underlying27 Tryd.underlying5 w.heap.size 63 2 2 [49, 52] rfl (fun i hi => by
    rw [Lib.cell_of_heap (heap_alloc_new w _)]
    match i, hi with
    | 0, _ => rfl
    | 1, _ => rfl
    ) 9 Tryd.underlying9]
  simp only [Result.andThen]
  rw [Oper.upon_value]
  go_wp2
  go_ret2
  exact ⟨rfl, (Below.refl _ _).alloc (Nat.le_refl _) _⟩
set_option maxHeartbeats 4000000 in
set_option maxRecDepth 100000 in
theorem fb_21 (w : World) (h : w.cell? ⟨3, 15, none⟩ = some (.int .u8 4)) : Calls Tryd.prog 64 #[.slice none 0 0, .int .u64 21, .int .i64 16, .bool false, .bool false] w fun e w' => e = .returned (.tuple #[.slice none 0 0, .string ⟨#[49, 53]⟩]) ∧ Below w.heap.size w w' := by
  have hlt : 3 < w.heap.size := by
    rcases Nat.lt_or_ge 3 w.heap.size with h' | h'
    · exact h'
    · simp [World.cell?, Array.getElem?_eq_none h'] at h
  have ha : ∀ o, (w.alloc o).cell? ⟨3, 15, none⟩ = some (.int .u8 4) := fun o => (World.cell?_alloc_lt w o ⟨3, 15, none⟩ hlt).trans h
  have hb : bits BinOp.and IntKind.u64 21 15 = 5 := by decide +kernel
  go_enter Tryd.func64, Tryd.ntmps64
  go_wp2_with (first | (go_at_call 75; refine (pow2_16 _).mono ?_; rintro e w' ⟨rfl, rfl⟩) | (go_at_call 76; refine (tz_16 _ (ha _)).mono ?_; rintro e w' ⟨rfl, rfl⟩))
  refine wp_loop_rounds 2 ?_
  rw [rounds_succ]
  go_wp2
  rw [rounds_succ]
  go_wp2
  rw [run_convert_bytes_arg _ 27 5 Tryd.underlying27 Tryd.underlying5 w.heap.size 63 2 2 [49, 53] rfl (fun i hi => by
    rw [Lib.cell_of_heap (heap_alloc_new w _)]
    match i, hi with
    | 0, _ => rfl
    | 1, _ => rfl
    ) 9 Tryd.underlying9]
  simp only [Result.andThen]
  rw [Oper.upon_value]
  go_wp2
  go_ret2
  exact ⟨rfl, (Below.refl _ _).alloc (Nat.le_refl _) _⟩
set_option maxHeartbeats 4000000 in
set_option maxRecDepth 100000 in
theorem fb_22 (w : World) (h : w.cell? ⟨3, 15, none⟩ = some (.int .u8 4)) : Calls Tryd.prog 64 #[.slice none 0 0, .int .u64 22, .int .i64 16, .bool false, .bool false] w fun e w' => e = .returned (.tuple #[.slice none 0 0, .string ⟨#[49, 54]⟩]) ∧ Below w.heap.size w w' := by
  have hlt : 3 < w.heap.size := by
    rcases Nat.lt_or_ge 3 w.heap.size with h' | h'
    · exact h'
    · simp [World.cell?, Array.getElem?_eq_none h'] at h
  have ha : ∀ o, (w.alloc o).cell? ⟨3, 15, none⟩ = some (.int .u8 4) := fun o => (World.cell?_alloc_lt w o ⟨3, 15, none⟩ hlt).trans h
  have hb : bits BinOp.and IntKind.u64 22 15 = 6 := by decide +kernel
  go_enter Tryd.func64, Tryd.ntmps64
  go_wp2_with (first | (go_at_call 75; refine (pow2_16 _).mono ?_; rintro e w' ⟨rfl, rfl⟩) | (go_at_call 76; refine (tz_16 _ (ha _)).mono ?_; rintro e w' ⟨rfl, rfl⟩))
  refine wp_loop_rounds 2 ?_
  rw [rounds_succ]
  go_wp2
  rw [rounds_succ]
  go_wp2
  rw [run_convert_bytes_arg _ 27 5 Tryd.underlying27 Tryd.underlying5 w.heap.size 63 2 2 [49, 54] rfl (fun i hi => by
    rw [Lib.cell_of_heap (heap_alloc_new w _)]
    match i, hi with
    | 0, _ => rfl
    | 1, _ => rfl
    ) 9 Tryd.underlying9]
  simp only [Result.andThen]
  rw [Oper.upon_value]
  go_wp2
  go_ret2
  exact ⟨rfl, (Below.refl _ _).alloc (Nat.le_refl _) _⟩
set_option maxHeartbeats 4000000 in
set_option maxRecDepth 100000 in
theorem fb_23 (w : World) (h : w.cell? ⟨3, 15, none⟩ = some (.int .u8 4)) : Calls Tryd.prog 64 #[.slice none 0 0, .int .u64 23, .int .i64 16, .bool false, .bool false] w fun e w' => e = .returned (.tuple #[.slice none 0 0, .string ⟨#[49, 55]⟩]) ∧ Below w.heap.size w w' := by
  have hlt : 3 < w.heap.size := by
    rcases Nat.lt_or_ge 3 w.heap.size with h' | h'
    · exact h'
    · simp [World.cell?, Array.getElem?_eq_none h'] at h
  have ha : ∀ o, (w.alloc o).cell? ⟨3, 15, none⟩ = some (.int .u8 4) := fun o => (World.cell?_alloc_lt w o ⟨3, 15, none⟩ hlt).trans h
  have hb : bits BinOp.and IntKind.u64 23 15 = 7 := by decide +kernel
  go_enter Tryd.func64, Tryd.ntmps64
  go_wp2_with (first | (go_at_call 75; refine (pow2_16 _).mono ?_; rintro e w' ⟨rfl, rfl⟩) | (go_at_call 76; refine (tz_16 _ (ha _)).mono ?_; rintro e w' ⟨rfl, rfl⟩))
  refine wp_loop_rounds 2 ?_
  rw [rounds_succ]
  go_wp2
  rw [rounds_succ]
  go_wp2
  rw [run_convert_bytes_arg _ 27 5 Tryd.underlying27 Tryd.underlying5 w.heap.size 63 2 2 [49, 55] rfl (fun i hi => by
    rw [Lib.cell_of_heap (heap_alloc_new w _)]
    match i, hi with
    | 0, _ => rfl
    | 1, _ => rfl
    ) 9 Tryd.underlying9]
  simp only [Result.andThen]
  rw [Oper.upon_value]
  go_wp2
  go_ret2
  exact ⟨rfl, (Below.refl _ _).alloc (Nat.le_refl _) _⟩
set_option maxHeartbeats 4000000 in
set_option maxRecDepth 100000 in
theorem fb_24 (w : World) (h : w.cell? ⟨3, 15, none⟩ = some (.int .u8 4)) : Calls Tryd.prog 64 #[.slice none 0 0, .int .u64 24, .int .i64 16, .bool false, .bool false] w fun e w' => e = .returned (.tuple #[.slice none 0 0, .string ⟨#[49, 56]⟩]) ∧ Below w.heap.size w w' := by
  have hlt : 3 < w.heap.size := by
    rcases Nat.lt_or_ge 3 w.heap.size with h' | h'
    · exact h'
    · simp [World.cell?, Array.getElem?_eq_none h'] at h
  have ha : ∀ o, (w.alloc o).cell? ⟨3, 15, none⟩ = some (.int .u8 4) := fun o => (World.cell?_alloc_lt w o ⟨3, 15, none⟩ hlt).trans h
  have hb : bits BinOp.and IntKind.u64 24 15 = 8 := by decide +kernel
  go_enter Tryd.func64, Tryd.ntmps64
  go_wp2_with (first | (go_at_call 75; refine (pow2_16 _).mono ?_; rintro e w' ⟨rfl, rfl⟩) | (go_at_call 76; refine (tz_16 _ (ha _)).mono ?_; rintro e w' ⟨rfl, rfl⟩))
  refine wp_loop_rounds 2 ?_
  rw [rounds_succ]
  go_wp2
  rw [rounds_succ]
  go_wp2
  rw [run_convert_bytes_arg _ 27 5 Tryd.underlying27 Tryd.underlying5 w.heap.size 63 2 2 [49, 56] rfl (fun i hi => by
    rw [Lib.cell_of_heap (heap_alloc_new w _)]
    match i, hi with
    | 0, _ => rfl
    | 1, _ => rfl
    ) 9 Tryd.underlying9]
  simp only [Result.andThen]
  rw [Oper.upon_value]
  go_wp2
  go_ret2
  exact ⟨rfl, (Below.refl _ _).alloc (Nat.le_refl _) _⟩
set_option maxHeartbeats 4000000 in
set_option maxRecDepth 100000 in
theorem fb_25 (w : World) (h : w.cell? ⟨3, 15, none⟩ = some (.int .u8 4)) : Calls Tryd.prog 64 #[.slice none 0 0, .int .u64 25, .int .i64 16, .bool false, .bool false] w fun e w' => e = .returned (.tuple #[.slice none 0 0, .string ⟨#[49, 57]⟩]) ∧ Below w.heap.size w w' := by
  have hlt : 3 < w.heap.size := by
    rcases Nat.lt_or_ge 3 w.heap.size with h' | h'
    · exact h'
    · simp [World.cell?, Array.getElem?_eq_none h'] at h
  have ha : ∀ o, (w.alloc o).cell? ⟨3, 15, none⟩ = some (.int .u8 4) := fun o => (World.cell?_alloc_lt w o ⟨3, 15, none⟩ hlt).trans h
  have hb : bits BinOp.and IntKind.u64 25 15 = 9 := by decide +kernel
  go_enter Tryd.func64, Tryd.ntmps64
  go_wp2_with (first | (go_at_call 75; refine (pow2_16 _).mono ?_; rintro e w' ⟨rfl, rfl⟩) | (go_at_call 76; refine (tz_16 _ (ha _)).mono ?_; rintro e w' ⟨rfl, rfl⟩))
  refine wp_loop_rounds 2 ?_
  rw [rounds_succ]
  go_wp2
  rw [rounds_succ]
  go_wp2
  rw [run_convert_bytes_arg _ 27 5 Tryd.underlying27 Tryd.underlying5 w.heap.size 63 2 2 [49, 57] rfl (fun i hi => by
    rw [Lib.cell_of_heap (heap_alloc_new w _)]
    match i, hi with
    | 0, _ => rfl
    | 1, _ => rfl
    ) 9 Tryd.underlying9]
  simp only [Result.andThen]
  rw [Oper.upon_value]
  go_wp2
  go_ret2
  exact ⟨rfl, (Below.refl _ _).alloc (Nat.le_refl _) _⟩
set_option maxHeartbeats 4000000 in
set_option maxRecDepth 100000 in
theorem fb_26 (w : World) (h : w.cell? ⟨3, 15, none⟩ = some (.int .u8 4)) : Calls Tryd.prog 64 #[.slice none 0 0, .int .u64 26, .int .i64 16, .bool false, .bool false] w fun e w' => e = .returned (.tuple #[.slice none 0 0, .string ⟨#[49, 97]⟩]) ∧ Below w.heap.size w w' := by
  have hlt : 3 < w.heap.size := by
    rcases Nat.lt_or_ge 3 w.heap.size with h' | h'
    · exact h'
    · simp [World.cell?, Array.getElem?_eq_none h'] at h
  have ha : ∀ o, (w.alloc o).cell? ⟨3, 15, none⟩ = some (.int .u8 4) := fun o => (World.cell?_alloc_lt w o ⟨3, 15, none⟩ hlt).trans h
  have hb : bits BinOp.and IntKind.u64 26 15 = 10 := by decide +kernel
  go_enter Tryd.func64, Tryd.ntmps64
  go_wp2_with (first | (go_at_call 75; refine (pow2_16 _).mono ?_; rintro e w' ⟨rfl, rfl⟩) | (go_at_call 76; refine (tz_16 _ (ha _)).mono ?_; rintro e w' ⟨rfl, rfl⟩))
  refine wp_loop_rounds 2 ?_
  rw [rounds_succ]
  go_wp2
  rw [rounds_succ]
  go_wp2
  rw [run_convert_bytes_arg _ 27 5 Tryd.underlying27 Tryd.underlying5 w.heap.size 63 2 2 [49, 97] rfl (fun i hi => by
    rw [Lib.cell_of_heap (heap_alloc_new w _)]
    match i, hi with
    | 0, _ => rfl
    | 1, _ => rfl
    ) 9 Tryd.underlying9]
  simp only [Result.andThen]
  rw [Oper.upon_value]
  go_wp2
  go_ret2
  exact ⟨rfl, (Below.refl _ _).alloc (Nat.le_refl _) _⟩
set_option maxHeartbeats 4000000 in
set_option maxRecDepth 100000 in
theorem fb_27 (w : World) (h : w.cell? ⟨3, 15, none⟩ = some (.int .u8 4)) : Calls Tryd.prog 64 #[.slice none 0 0, .int .u64 27, .int .i64 16, .bool false, .bool false] w fun e w' => e = .returned (.tuple #[.slice none 0 0, .string ⟨#[49, 98]⟩]) ∧ Below w.heap.size w w' := by
  have hlt : 3 < w.heap.size := by
    rcases Nat.lt_or_ge 3 w.heap.size with h' | h'
    · exact h'
    · simp [World.cell?, Array.getElem?_eq_none h'] at h
  have ha : ∀ o, (w.alloc o).cell? ⟨3, 15, none⟩ = some (.int .u8 4) := fun o => (World.cell?_alloc_lt w o ⟨3, 15, none⟩ hlt).trans h
  have hb : bits BinOp.and IntKind.u64 27 15 = 11 := by decide +kernel
  go_enter Tryd.func64, Tryd.ntmps64
  go_wp2_with (first | (go_at_call 75; refine (pow2_16 _).mono ?_; rintro e w' ⟨rfl, rfl⟩) | (go_at_call 76; refine (tz_16 _ (ha _)).mono ?_; rintro e w' ⟨rfl, rfl⟩))
  refine wp_loop_rounds 2 ?_
  rw [rounds_succ]
  go_wp2
  rw [rounds_succ]
  go_wp2
  rw [run_convert_bytes_arg _ 27 5 Tryd.underlying27 Tryd.underlying5 w.heap.size 63 2 2 [49, 98] rfl (fun i hi => by
    rw [Lib.cell_of_heap (heap_alloc_new w _)]
    match i, hi with
    | 0, _ => rfl
    | 1, _ => rfl
    ) 9 Tryd.underlying9]
  simp only [Result.andThen]
  rw [Oper.upon_value]
  go_wp2
  go_ret2
  exact ⟨rfl, (Below.refl _ _).alloc (Nat.le_refl _) _⟩
set_option maxHeartbeats 4000000 in
set_option maxRecDepth 100000 in
theorem fb_28 (w : World) (h : w.cell? ⟨3, 15, none⟩ = some (.int .u8 4)) : Calls Tryd.prog 64 #[.slice none 0 0, .int .u64 28, .int .i64 16, .bool false, .bool false] w fun e w' => e = .returned (.tuple #[.slice none 0 0, .string ⟨#[49, 99]⟩]) ∧ Below w.heap.size w w' := by
  have hlt : 3 < w.heap.size := by
    rcases Nat.lt_or_ge 3 w.heap.size with h' | h'
    · exact h'
    · simp [World.cell?, Array.getElem?_eq_none h'] at h
  have ha : ∀ o, (w.alloc o).cell? ⟨3, 15, none⟩ = some (.int .u8 4) := fun o => (World.cell?_alloc_lt w o ⟨3, 15, none⟩ hlt).trans h
  have hb : bits BinOp.and IntKind.u64 28 15 = 12 := by decide +kernel
  go_enter Tryd.func64, Tryd.ntmps64
  go_wp2_with (first | (go_at_call 75; refine (pow2_16 _).mono ?_; rintro e w' ⟨rfl, rfl⟩) | (go_at_call 76; refine (tz_16 _ (ha _)).mono ?_; rintro e w' ⟨rfl, rfl⟩))
  refine wp_loop_rounds 2 ?_
  rw [rounds_succ]
  go_wp2
  rw [rounds_succ]
  go_wp2
  rw [run_convert_bytes_arg _ 27 5 Tryd.underlying27 Tryd.underlying5 w.heap.size 63 2 2 [49, 99] rfl (fun i hi => by
    rw [Lib.cell_of_heap (heap_alloc_new w _)]
    match i, hi with
    | 0, _ => rfl
    | 1, _ => rfl
    ) 9 Tryd.underlying9]
  simp only [Result.andThen]
  rw [Oper.upon_value]
  go_wp2
  go_ret2
  exact ⟨rfl, (Below.refl _ _).alloc (Nat.le_refl _) _⟩
set_option maxHeartbeats 4000000 in
set_option maxRecDepth 100000 in
theorem fb_29 (w : World) (h : w.cell? ⟨3, 15, none⟩ = some (.int .u8 4)) : Calls Tryd.prog 64 #[.slice none 0 0, .int .u64 29, .int .i64 16, .bool false, .bool false] w fun e w' => e = .returned (.tuple #[.slice none 0 0, .string ⟨#[49, 100]⟩]) ∧ Below w.heap.size w w' := by
  have hlt : 3 < w.heap.size := by
    rcases Nat.lt_or_ge 3 w.heap.size with h' | h'
    · exact h'
    · simp [World.cell?, Array.getElem?_eq_none h'] at h
  have ha : ∀ o, (w.alloc o).cell? ⟨3, 15, none⟩ = some (.int .u8 4) := fun o => (World.cell?_alloc_lt w o ⟨3, 15, none⟩ hlt).trans h
  have hb : bits BinOp.and IntKind.u64 29 15 = 13 := by decide +kernel
  go_enter Tryd.func64, Tryd.ntmps64
  go_wp2_with (first | (go_at_call 75; refine (pow2_16 _).mono ?_; rintro e w' ⟨rfl, rfl⟩) | (go_at_call 76; refine (tz_16 _ (ha _)).mono ?_; rintro e w' ⟨rfl, rfl⟩))
  refine wp_loop_rounds 2 ?_
  rw [rounds_succ]
  go_wp2
  rw [rounds_succ]
  go_wp2
  rw [run_convert_bytes_arg _ 27 5 Tryd.underlying27 Tryd.underlying5 w.heap.size 63 2 2 [49, 100] rfl (fun i hi => by
    rw [Lib.cell_of_heap (heap_alloc_new w _)]
    match i, hi with
    | 0, _ => rfl
    | 1, _ => rfl
    ) 9 Tryd.underlying9]
  simp only [Result.andThen]
  rw [Oper.upon_value]
  go_wp2
  go_ret2
  exact ⟨rfl, (Below.refl _ _).alloc (Nat.le_refl _) _⟩
set_option maxHeartbeats 4000000 in
set_option maxRecDepth 100000 in
theorem fb_30 (w : World) (h : w.cell? ⟨3, 15, none⟩ = some (.int .u8 4)) : Calls Tryd.prog 64 #[.slice none 0 0, .int .u64 30, .int .i64 16, .bool false, .bool false] w fun e w' => e = .returned (.tuple #[.slice none 0 0, .string ⟨#[49, 101]⟩]) ∧ Below w.heap.size w w' := by
  have hlt : 3 < w.heap.size := by
    rcases Nat.lt_or_ge 3 w.heap.size with h' | h'
    · exact h'
    · simp [World.cell?, Array.getElem?_eq_none h'] at h
  have ha : ∀ o, (w.alloc o).cell? ⟨3, 15, none⟩ = some (.int .u8 4) := fun o => (World.cell?_alloc_lt w o ⟨3, 15, none⟩ hlt).trans h
  have hb : bits BinOp.and IntKind.u64 30 15 = 14 := by decide +kernel
  go_enter Tryd.func64, Tryd.ntmps64
  go_wp2_with (first | (go_at_call 75; refine (pow2_16 _).mono ?_; rintro e w' ⟨rfl, rfl⟩) | (go_at_call 76; refine (tz_16 _ (ha _)).mono ?_; rintro e w' ⟨rfl, rfl⟩))
  refine wp_loop_rounds 2 ?_
  rw [rounds_succ]
  go_wp2
  rw [rounds_succ]
  go_wp2
  rw [run_convert_bytes_arg _ 27 5 Tryd.underlying27 Tryd.underlying5 w.heap.size 63 2 2 [49, 101] rfl (fun i hi => by
    rw [Lib.cell_of_heap (heap_alloc_new w _)]
    match i, hi with
    | 0, _ => rfl
    | 1, _ => rfl
    ) 9 Tryd.underlying9]
  simp only [Result.andThen]
  rw [Oper.upon_value]
  go_wp2
  go_ret2
  exact ⟨rfl, (Below.refl _ _).alloc (Nat.le_refl _) _⟩
set_option maxHeartbeats 4000000 in
set_option maxRecDepth 100000 in
theorem fb_31 (w : World) (h : w.cell? ⟨3, 15, none⟩ = some (.int .u8 4)) : Calls Tryd.prog 64 #[.slice none 0 0, .int .u64 31, .int .i64 16, .bool false, .bool false] w fun e w' => e = .returned (.tuple #[.slice none 0 0, .string ⟨#[49, 102]⟩]) ∧ Below w.heap.size w w' := by
  have hlt : 3 < w.heap.size := by
    rcases Nat.lt_or_ge 3 w.heap.size with h' | h'
    · exact h'
    · simp [World.cell?, Array.getElem?_eq_none h'] at h
  have ha : ∀ o, (w.alloc o).cell? ⟨3, 15, none⟩ = some (.int .u8 4) := fun o => (World.cell?_alloc_lt w o ⟨3, 15, none⟩ hlt).trans h
  have hb : bits BinOp.and IntKind.u64 31 15 = 15 := by decide +kernel
  go_enter Tryd.func64, Tryd.ntmps64
  go_wp2_with (first | (go_at_call 75; refine (pow2_16 _).mono ?_; rintro e w' ⟨rfl, rfl⟩) | (go_at_call 76; refine (tz_16 _ (ha _)).mono ?_; rintro e w' ⟨rfl, rfl⟩))
  refine wp_loop_rounds 2 ?_
  rw [rounds_succ]
  go_wp2
  rw [rounds_succ]
  go_wp2
  rw [run_convert_bytes_arg _ 27 5 Tryd.underlying27 Tryd.underlying5 w.heap.size 63 2 2 [49, 102] rfl (fun i hi => by
    rw [Lib.cell_of_heap (heap_alloc_new w _)]
    match i, hi with
    | 0, _ => rfl
    | 1, _ => rfl
    ) 9 Tryd.underlying9]
  simp only [Result.andThen]
  rw [Oper.upon_value]
  go_wp2
  go_ret2
  exact ⟨rfl, (Below.refl _ _).alloc (Nat.le_refl _) _⟩
/-- The digits of base 16 of a number below 32. -/
def hex32 (c : Nat) : List UInt8 := if c < 10 then [UInt8.ofNat (48 + c)] else if c < 16 then [UInt8.ofNat (87 + c)] else if c < 26 then [49, UInt8.ofNat (32 + c)] else [49, UInt8.ofNat (71 + c)]
theorem fb_any (c : Nat) (hc : c < 32) (w : World) (h : w.cell? ⟨3, 15, none⟩ = some (.int .u8 4)) : Calls Tryd.prog 64 #[.slice none 0 0, .int .u64 (c : Nat), .int .i64 16, .bool false, .bool false] w fun e w' => e = .returned (.tuple #[.slice none 0 0, .string ⟨(hex32 c).toArray⟩]) ∧ Below w.heap.size w w' := by
  match c, hc with
  | 0, _ => exact fb_0 w h
  | 1, _ => exact fb_1 w h
  | 2, _ => exact fb_2 w h
  | 3, _ => exact fb_3 w h
  | 4, _ => exact fb_4 w h
  | 5, _ => exact fb_5 w h
  | 6, _ => exact fb_6 w h
  | 7, _ => exact fb_7 w h
  | 8, _ => exact fb_8 w h
  | 9, _ => exact fb_9 w h
  | 10, _ => exact fb_10 w h
  | 11, _ => exact fb_11 w h
  | 12, _ => exact fb_12 w h
  | 13, _ => exact fb_13 w h
  | 14, _ => exact fb_14 w h
  | 15, _ => exact fb_15 w h
  | 16, _ => exact fb_16 w h
  | 17, _ => exact fb_17 w h
  | 18, _ => exact fb_18 w h
  | 19, _ => exact fb_19 w h
  | 20, _ => exact fb_20 w h
  | 21, _ => exact fb_21 w h
  | 22, _ => exact fb_22 w h
  | 23, _ => exact fb_23 w h
  | 24, _ => exact fb_24 w h
  | 25, _ => exact fb_25 w h
  | 26, _ => exact fb_26 w h
  | 27, _ => exact fb_27 w h
  | 28, _ => exact fb_28 w h
  | 29, _ => exact fb_29 w h
  | 30, _ => exact fb_30 w h
  | 31, _ => exact fb_31 w h
  | n + 32, hc => exact absurd hc (by omega)
set_option maxHeartbeats 1000000 in
theorem fmt16_inner (c : Nat) (hc : c < 32) (w : World) (h : w.cell? ⟨3, 15, none⟩ = some (.int .u8 4)) : Calls Tryd.prog 47 #[.int .i64 (c : Nat), .int .i64 16] w fun e w' => e = .returned (.string ⟨(hex32 c).toArray⟩) ∧ Below w.heap.size w w' := by
  go_enter Tryd.func47, Tryd.ntmps47
  go_wp2_with (go_at_call 64; refine (fb_any c hc _ h).mono ?_; rintro e w' ⟨rfl, hb⟩)
  go_ret
  exact ⟨rfl, hb⟩
set_option maxHeartbeats 1000000 in
theorem fmt16 (c : Nat) (hc : c < 32) (w : World) (h : w.cell? ⟨3, 15, none⟩ = some (.int .u8 4)) : Calls Tryd.prog 28 #[.int .i64 (c : Nat), .int .i64 16] w fun e w' => e = .returned (.string ⟨(hex32 c).toArray⟩) ∧ Below w.heap.size w w' := by
  go_enter Tryd.func28, Tryd.ntmps28
  go_wp2_with (go_at_call 47; refine (fmt16_inner c hc _ h).mono ?_; rintro e w' ⟨rfl, hb⟩)
  go_ret
  exact ⟨rfl, hb⟩
end Go.Proofs.YtjioglaobabmmaaDoor.P
