/- A law's list: copies, appends. -/
import Derived.Test.YtfedlanbmibhkaaS16ti
namespace Go.Proofs.Ytfedlanbmibhkaa.P
open Go.RowKit Go.Shelf Go.Proofs.YtfedlanbmibhkaaW.PrintWords Go.Proofs.YtfedlanbmibhkaaW.PrintLast Go.Proofs.YtfedlanbmibhkaaW.PrintMore
set_option linter.unusedVariables false
set_option linter.unusedSimpArgs false
section
variable {a : Act} {w : World} {o : Oper} {K : Act → World → Prop} {Q : Exit → Act → World → Prop}
/-- append(v, ys...), ys read, nil let in -/
theorem wp_append_row_i (base : Nat) (s x : Operand) (ho : o.op = .call { callee := .builtin .append, args := #[s, x], argTypes := #[51, 51] })
    (v : Value) (n : Nat) (xs ys : List Int) (A : Option Addr) (m c : Nat) (hs : a.eval s = v) (hx : a.eval x = .slice A m c) (HO : w.ownsRow base 3 1 v n (nums .i64 xs)) (HR : Kd.C (Kd.int .i64) w A m ys) (hm : ys.length = m) (hbase : base ≤ w.heap.size) (hl : (n + m) * 8 ≤ 140737488355328)
    (h : ∀ v1 w1, w1.ownsRow base 3 1 v1 (n + m) (nums .i64 (xs ++ ys)) → w.grownBy w1 v.ownBlock → (v1.ownBlock = v.ownBlock ∨ ∃ b, v1.ownBlock = some b ∧ w.heap.size ≤ b) → K (a.put o.dst v1) w1) : o.wp Try.prog a w K Q := by
  obtain ⟨i0, hi, hz0, hz1, hz2⟩ := info_parts infoe_i
  have hnum : nums .i64 (xs ++ ys) = nums .i64 xs ++ nums .i64 ys := by unfold nums; rw [List.map_append]
  rcases A with _ | ad
  · have h0 : m = 0 := by
      rcases Nat.eq_zero_or_pos m with h0 | h0
      · exact h0
      · obtain ⟨ad, h, _⟩ := HR.2.2 h0
        cases h
    subst h0
    obtain rfl : ys = [] := List.eq_nil_of_length_eq_zero hm
    have hr : (Builtin.append_ #[51, 51] o.type #[v, .slice none 0 c]).run Try.prog w = .ok v w := by
      rcases HO.2 with ⟨rfl, hn⟩ | ⟨g, cap, cur, rfl, _, _, hnc, _⟩
      · simp [Builtin.append_, run_underlying Try.underlying51, sizeOf, typeInfo, hi, Builtin.lenOf, Builtin.firstCells]
      · simp [Builtin.append_, run_underlying Try.underlying51, sizeOf, typeInfo, hi, Builtin.lenOf, Builtin.firstCells, hnc, storeCells]
    unfold Oper.wp execOp
    simp only [ho, resolve, invoke, builtin, Sem.run_bind, Sem.run_pure, Result.andThen_ok, List.map_toArray, List.map_cons, List.map_nil, hs, hx, hr]
    exact h v w (by simpa using HO) (World.grownBy.refl w _) (.inl rfl)
  · refine wp_append_w s x 51 ho base 3 i0 (.int .i64 0) Try.underlying51 hi hz0 hz1 rfl v n (nums .i64 xs) hs HO ad m c (nums .i64 ys) hx (by simp [nums, hm]) (fun j u hu => ?_) (fun u hu => by simp only [nums, List.mem_map] at hu; obtain ⟨q, _, rfl⟩ := hu; rfl) (by omega) (by rw [hz2]; exact hl) hbase ?_
    · obtain ⟨_, _, h3⟩ := HR
      have hj : j < ys.length := by
        rcases Nat.lt_or_ge j ys.length with h | h
        · exact h
        · simp [nums, List.getElem?_eq_none h] at hu
      obtain ⟨ad', e', h4⟩ := h3 (by omega)
      cases e'
      obtain ⟨y, hy⟩ := getElem_lt hj
      obtain ⟨c', hc1, hc2, hc3⟩ := h4 j y hy
      obtain rfl : c' = [.int .i64 y] := hc2
      have h5 := hc3 0 _ rfl
      have h6 := nums_get (k := .i64) hy
      rw [hu] at h6; cases h6
      have e7 : j * (Kd.int .i64).sz + 0 = j := by show j * 1 + 0 = j; omega
      rw [e7] at h5; exact h5
    · intro v1 w1 h1 h2 h3
      exact h v1 w1 (by rw [hnum]; exact h1) h2 h3
end
/-- CopyBytes, CopyInts: a row of its own -/
theorem copy_for_i {w : World} {A : Option Addr} {c n : Nat} {xs : List Int} (hC : Kd.C (Kd.int .i64) w A n xs) (hl : xs.length = n) (hc : n ≤ c) (hn : n ≤ 1000000) :
    Calls Try.prog 30 #[.slice A n c] w fun e w' => ∃ v, e = .returned v ∧ w'.ownsRow w.heap.size 3 1 v n (nums .i64 xs) ∧ Below w.heap.size w w' := by
  subst hl
  refine (colophonref00_CopyInts.calls A c xs xs w hC hc (by unfold colophonref00_CopyInts.f; rw [if_pos (by simp only [List.length_nil]; omega)]; rfl)).mono ?_
  rintro e w' ⟨v, rfl, h1, h2⟩
  exact ⟨v, rfl, Kd.own_of_R (enc := Value.int .i64) (h1 := fun _ => rfl) h1, h2⟩
end Go.Proofs.Ytfedlanbmibhkaa.P
