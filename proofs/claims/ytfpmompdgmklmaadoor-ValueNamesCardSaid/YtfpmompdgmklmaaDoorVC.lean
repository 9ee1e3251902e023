/- Numbers' texts: digits, no nought ahead, each number's its own. -/
import Derived.Test.YtfpmompdgmklmaaDoorVB
namespace Go.Proofs.YtfpmompdgmklmaaDoor.P
open Go.RowKit Go.Proofs.YtfpmompdgmklmaaDoorW.PrintWords Go.Proofs.YtfpmompdgmklmaaDoorW.PrintLast Go.Proofs.YtfpmompdgmklmaaDoorW.PrintMore
set_option linter.unusedVariables false
set_option linter.unusedSimpArgs false
theorem dd_small {u : Nat} (h : u < 10) : Lib.decDigits u = [UInt8.ofNat (48 + u)] := by
 rw [Lib.decDigits, dif_pos h]
theorem dd_big {u : Nat} (h : ¬ u < 10) : Lib.decDigits u = Lib.decDigits (u / 10) ++ [UInt8.ofNat (48 + u % 10)] := by
 rw [Lib.decDigits, dif_neg h]
theorem dd_len20 (k : Nat) : ∀ u : Nat, u < 10 ^ (k + 1) → (Lib.decDigits u).length ≤ k + 1 := by
 induction k with
 | zero => intro u hu; rw [dd_small (by simpa using hu)]; simp
 | succ k ih =>
  intro u hu
  by_cases h : u < 10
  · rw [dd_small h]; simp
  ·
   rw [dd_big h]
   have := ih (u / 10) (by rw [Nat.pow_succ] at hu; omega)
   simp
   omega
theorem numS_size (n : Int) (h0 : -9223372036854775808 ≤ n) (h1 : n ≤ 9223372036854775807) : (numS n).size ≤ 21 := by
 have e : (numS n).size = (Lib.itoa n).length := by unfold numS; exact List.size_toArray
 rw [e]
 unfold Lib.itoa
 split
 · have := dd_len20 19 n.natAbs (by omega); simp; omega
 · have := dd_len20 19 n.toNat (by omega); omega
theorem int_wf {n : Int} (h : (Lit.int .i64 n).wf = true) : -9223372036854775808 ≤ n ∧ n ≤ 9223372036854775807 := by
 simp [Lit.wf, IntKind.min, IntKind.max, IntKind.signed, IntKind.bits] at h
 omega
end Go.Proofs.YtfpmompdgmklmaaDoor.P
/- The document's numbers' texts. -/
namespace Go.Proofs.YtfpmompdgmklmaaDoor.P
open Go.RowKit Go.Proofs.YtfpmompdgmklmaaDoorW.PrintWords Go.Proofs.YtfpmompdgmklmaaDoorW.PrintLast Go.Proofs.YtfpmompdgmklmaaDoorW.PrintMore
set_option linter.unusedVariables false
set_option linter.unusedSimpArgs false
theorem strOf1 (c : Nat) (h : c < 10) : strOfNums [wrap64 (48 - (-(c : Int))) % 256] = ⟨#[UInt8.ofNat (48 + c)]⟩ := by
 have e : wrap64 (48 - (-(c : Int))) % 256 = ((48 + c : Nat) : Int) := by rw [v_wrap (by omega) (by omega)]; omega
 rw [e]
 unfold strOfNums
 show (⟨#[UInt8.ofNat ((48 + c : Nat) : Int).toNat]⟩ : ByteArray) = _
 rw [Int.toNat_natCast]
theorem app_mk (a b : List UInt8) : (⟨a.toArray⟩ : ByteArray) ++ (⟨b.toArray⟩ : ByteArray) = ⟨(a ++ b).toArray⟩ := by
 apply ByteArray.ext
 apply Array.toList_inj.mp
 rw [ByteArray.data_append]
 simp
theorem digits_ev : ∀ u : Nat, u ≤ 9223372036854775808 → Ev (fun k => colophonref10_digits.f k (-(u : Int))) ⟨(Lib.decDigits u).toArray⟩ := by
 intro u
 induction u using Nat.strongRecOn with
 | _ u ih =>
  intro hu
  have ht : Int.tmod (-(u : Int)) 10 = -((u % 10 : Nat) : Int) := by rw [Int.neg_tmod]; rfl
  have hd : Int.tdiv (-(u : Int)) 10 = -((u / 10 : Nat) : Int) := by rw [Int.neg_tdiv]; rfl
  have hs : strOfNums [wrap64 (48 - Int.tmod (-(u : Int)) 10) % 256] = ⟨#[UInt8.ofNat (48 + u % 10)]⟩ := by rw [ht]; exact strOf1 _ (Nat.mod_lt _ (by omega))
  by_cases h : u < 10
  ·
   refine Ev.step (f := fun _ => some (⟨(Lib.decDigits u).toArray⟩ : ByteArray)) (fun k => ?_) (Ev.now _)
   rw [colophonref10_digits.f, Option.bind_some, if_pos (by omega), hs, dd_small h, Nat.mod_eq_of_lt h]
  ·
   have h1 := ih (u / 10) (by omega) (by omega)
   refine Ev.step (f := fun k => (colophonref10_digits.f k (-((u / 10 : Nat) : Int))).bind fun t => (if t.size + (⟨#[UInt8.ofNat (48 + u % 10)]⟩ : ByteArray).size ≤ 9223372036854775807 then (some (t ++ ⟨#[UInt8.ofNat (48 + u % 10)]⟩)) else none)) (fun k => ?_) (Ev.bind h1 ?_)
   · rw [colophonref10_digits.f, Option.bind_some, if_neg (by omega), hs, hd, v_wrap (by omega) (by omega)]
   ·
    have hsz : (⟨(Lib.decDigits (u / 10)).toArray⟩ : ByteArray).size = (Lib.decDigits (u / 10)).length := List.size_toArray
    have hl := dd_len20 19 (u / 10) (by omega)
    have h1' : (⟨#[UInt8.ofNat (48 + u % 10)]⟩ : ByteArray).size = 1 := rfl
    simp only [if_pos (show (⟨(Lib.decDigits (u / 10)).toArray⟩ : ByteArray).size + (⟨#[UInt8.ofNat (48 + u % 10)]⟩ : ByteArray).size ≤ 9223372036854775807 by omega)]
    rw [dd_big h]
    have := app_mk (Lib.decDigits (u / 10)) [UInt8.ofNat (48 + u % 10)]
    rw [← this]
    exact Ev.now _
theorem sem_digits {u : Nat} {w : World} (hu : u ≤ 9223372036854775808) : Calls Tryd.prog 45 #[.int .i64 (-(u : Int))] w fun e w' => e = .returned (.string ⟨(Lib.decDigits u).toArray⟩) ∧ Below w.heap.size w w' := by
 obtain ⟨k, hk⟩ := (digits_ev u hu).rounds
 exact colophonref10_digits.calls k _ _ w hk
theorem numS_neg {n : Int} (h : n < 0) : numS n = (⟨#[45]⟩ : ByteArray) ++ ⟨(Lib.decDigits n.natAbs).toArray⟩ := by
 have := app_mk [45] (Lib.decDigits n.natAbs)
 rw [this]
 unfold numS Lib.itoa
 rw [if_pos h]
 rfl
theorem numS_pos {n : Int} (h : ¬ n < 0) : numS n = ⟨(Lib.decDigits n.natAbs).toArray⟩ := by
 unfold numS Lib.itoa
 rw [if_neg h]
 congr 3
 omega
set_option maxHeartbeats 4000000 in
set_option maxRecDepth 100000 in
theorem sem_numberR (n : Int) (w : World) (h0 : -9223372036854775808 ≤ n) (h1 : n ≤ 9223372036854775807) : Calls Tryd.prog 31 #[.int .i64 n] w fun e w' => e = .returned (.agg #[.int .i64 2, .bool false, .string (numS n), .slice none 0 0, .slice none 0 0]) ∧ Below w.heap.size w w' := by
 have kP_ := Tryd.underlying25
 by_cases hn : n < 0
 ·
  have b0 : decide (n < 0) = true := decide_eq_true hn
  have HE : q0_ (n = -((n.natAbs : Nat) : Int)) := ⟨by omega⟩
  have HN := q0_.mk (numS_neg hn)
  have hsz : (⟨(Lib.decDigits n.natAbs).toArray⟩ : ByteArray).size = (Lib.decDigits n.natAbs).length := List.size_toArray
  have hl := dd_len20 19 n.natAbs (by omega)
  have hu : n.natAbs ≤ 9223372036854775808 := by omega
  generalize hd : (⟨(Lib.decDigits n.natAbs).toArray⟩ : ByteArray) = d at hsz HN
  have HD := q0_.mk hd
  have hs1 : (9223372036854775807 < 1 + d.size) = False := eq_false (by omega)
  have HU := q0_.mk hu
  clear hsz hl hd hn hu h0 h1
  go_enter Tryd.func31, Tryd.ntmps31
  go_wp2_with (first
   | ((with_reducible refine qZ_ (N := 2) rfl ?_); refine qJ_ ?hg (N := 2) ?hd (cs := #[.int .i64 0, .bool false, .string (⟨#[]⟩ : ByteArray), .slice none 0 0, .slice none 0 0]) (t := 25) ?hr ?_; (case hd => rfl); (case hg => rfl); (case hr => first | (go_simp; done) | (go_simp; rfl)); intro gr hgr w1 hbox hb; have GE := q0_.mk hgr; have BK := q0_.mk hbox; have HB := q0_.mk hb; clear hgr hbox hb)
   | (go_at_call 45; refine (show Calls Tryd.prog 45 #[.int .i64 n] _ (fun e w' => e = .returned (.string d) ∧ Below w1.heap.size w1 w') from by have := sem_digits (w := w1) HU.out; rw [← HE.out, HD.out] at this; exact this).mono ?_; rintro e w2 ⟨rfl, hb2⟩; have HB2 := q0_.mk hb2; have BK2 := q0_.mk (q2_ BK.out hb2); clear hb2; have z0 : w2.cell? ⟨gr, 0, none⟩ = some (.int .i64 0) := (q1_ BK2.out 0).trans rfl; have z1 : w2.cell? ⟨gr, 1, none⟩ = some (.bool false) := (q1_ BK2.out 1).trans rfl; have z2 : w2.cell? ⟨gr, 2, none⟩ = some (.string (⟨#[]⟩ : ByteArray)) := (q1_ BK2.out 2).trans rfl; have z3 : w2.cell? ⟨gr, 3, none⟩ = some (.slice none 0 0) := (q1_ BK2.out 3).trans rfl; have z4 : w2.cell? ⟨gr, 4, none⟩ = some (.slice none 0 0) := (q1_ BK2.out 4).trans rfl; have y0 := q3_ BK2.out 0; have y1 := q3_ BK2.out 1; have y2 := q3_ BK2.out 2; have y3 := q3_ BK2.out 3; have y4 := q3_ BK2.out 4)
   | ((with_reducible refine qH_ (p := 2) rfl ?_); refine qW_ (w1 := w2.setCells gr 0 [.int .i64 2, .bool false, .string ((⟨#[45]⟩ : ByteArray) ++ d), .slice none 0 0, .slice none 0 0]) rfl rfl rfl ?hr ?_; (case hr => first | (go_simp; done) | (go_simp; rfl)); intro w3 hw; have HW := q0_.mk hw; have BK3 : q0_ (w3.heap[gr]? = some (.cells #[.int .i64 2, .bool false, .string ((⟨#[45]⟩ : ByteArray) ++ d), .slice none 0 0, .slice none 0 0] 25 (0, 0))) := ⟨by rw [hw]; exact qv_ (qv_ (qv_ (qv_ (qv_ BK2.out 0 _ rfl) 1 _ rfl) 2 _ rfl) 3 _ rfl) 4 _ rfl⟩; clear hw))
  refine bodyPost_ret (results_cell_row rfl _ _ gr 25 #[.int .i64 2, .bool false, .string ((⟨#[45]⟩ : ByteArray) ++ d), .slice none 0 0, .slice none 0 0] (0, 0) _ rfl BK3.out Tryd.underlying25 rfl (by kernel_rfl)) rfl ?_
  have hge : w.heap.size ≤ gr := Nat.le_of_eq GE.out.symm
  refine ⟨by rw [HN.out], ?_⟩
  rw [HW.out]
  exact qq_ (qq_ (qq_ (qq_ (qq_ (q4_ HB.out HB2.out) hge) hge) hge) hge) hge
 ·
  have b0 : decide (n < 0) = false := decide_eq_false hn
  have HE : q0_ (-n = -((n.natAbs : Nat) : Int)) := ⟨by omega⟩
  have HN := q0_.mk (numS_pos hn)
  have hu : n.natAbs ≤ 9223372036854775808 := by omega
  have hp : 0 ≤ n := by omega
  have HU := q0_.mk hu
  clear hn hu h0
  go_enter Tryd.func31, Tryd.ntmps31
  go_wp2_with (first
   | ((with_reducible refine qZ_ (N := 2) rfl ?_); refine qJ_ ?hg (N := 2) ?hd (cs := #[.int .i64 0, .bool false, .string (⟨#[]⟩ : ByteArray), .slice none 0 0, .slice none 0 0]) (t := 25) ?hr ?_; (case hd => rfl); (case hg => rfl); (case hr => first | (go_simp; done) | (go_simp; rfl)); intro gr hgr w1 hbox hb; have GE := q0_.mk hgr; have BK := q0_.mk hbox; have HB := q0_.mk hb; clear hgr hbox hb)
   | (go_at_call 45; refine (show Calls Tryd.prog 45 #[.int .i64 (-n)] _ (fun e w' => e = .returned (.string (numS n)) ∧ Below w1.heap.size w1 w') from by have := sem_digits (w := w1) HU.out; rw [← HE.out, ← HN.out] at this; exact this).mono ?_; rintro e w2 ⟨rfl, hb2⟩; have HB2 := q0_.mk hb2; have BK2 := q0_.mk (q2_ BK.out hb2); clear hb2; have z0 : w2.cell? ⟨gr, 0, none⟩ = some (.int .i64 0) := (q1_ BK2.out 0).trans rfl; have z1 : w2.cell? ⟨gr, 1, none⟩ = some (.bool false) := (q1_ BK2.out 1).trans rfl; have z2 : w2.cell? ⟨gr, 2, none⟩ = some (.string (⟨#[]⟩ : ByteArray)) := (q1_ BK2.out 2).trans rfl; have z3 : w2.cell? ⟨gr, 3, none⟩ = some (.slice none 0 0) := (q1_ BK2.out 3).trans rfl; have z4 : w2.cell? ⟨gr, 4, none⟩ = some (.slice none 0 0) := (q1_ BK2.out 4).trans rfl; have y0 := q3_ BK2.out 0; have y1 := q3_ BK2.out 1; have y2 := q3_ BK2.out 2; have y3 := q3_ BK2.out 3; have y4 := q3_ BK2.out 4)
   | ((with_reducible refine qH_ (p := 2) rfl ?_); refine qW_ (w1 := w2.setCells gr 0 [.int .i64 2, .bool false, .string (numS n), .slice none 0 0, .slice none 0 0]) rfl rfl rfl ?hr ?_; (case hr => first | (go_simp; done) | (go_simp; rfl)); intro w3 hw; have HW := q0_.mk hw; have BK3 : q0_ (w3.heap[gr]? = some (.cells #[.int .i64 2, .bool false, .string (numS n), .slice none 0 0, .slice none 0 0] 25 (0, 0))) := ⟨by rw [hw]; exact qv_ (qv_ (qv_ (qv_ (qv_ BK2.out 0 _ rfl) 1 _ rfl) 2 _ rfl) 3 _ rfl) 4 _ rfl⟩; clear hw))
  refine bodyPost_ret (results_cell_row rfl _ _ gr 25 #[.int .i64 2, .bool false, .string (numS n), .slice none 0 0, .slice none 0 0] (0, 0) _ rfl BK3.out Tryd.underlying25 rfl (by kernel_rfl)) rfl ?_
  have hge : w.heap.size ≤ gr := Nat.le_of_eq GE.out.symm
  refine ⟨rfl, ?_⟩
  rw [HW.out]
  exact qq_ (qq_ (qq_ (qq_ (qq_ (q4_ HB.out HB2.out) hge) hge) hge) hge) hge
end Go.Proofs.YtfpmompdgmklmaaDoor.P
/- Make, List and Get: what they make has no row that is shared. -/
namespace Go.Proofs.YtfpmompdgmklmaaDoor.P
open Go.RowKit Go.Proofs.YtfpmompdgmklmaaDoorW.PrintWords Go.Proofs.YtfpmompdgmklmaaDoorW.PrintLast Go.Proofs.YtfpmompdgmklmaaDoorW.PrintMore
attribute [local go_sem] max2_int min2_int max_two min_two max_three min_three max_four min_four
set_option linter.unusedVariables false
set_option linter.unusedSimpArgs false
theorem Sep.lower {lo lo' hi : Nat} {w : World} {x : S25} {v : Value} (h : Sep lo hi w x v) (hl : lo' ≤ lo) : Sep lo' hi w x v := by
 obtain ⟨v3, v4, e, hs⟩ := h
 exact ⟨v3, v4, e, hs.lower hl⟩
theorem sep_zero (lo hi : Nat) (w : World) (k : Int) (b : Bool) (t : ByteArray) (h : lo ≤ hi) : Sep lo hi w ⟨k, b, t, [], []⟩ (.agg #[.int .i64 k, .bool b, .string t, .slice none 0 0, .slice none 0 0]) := by
 refine ⟨_, _, rfl, SepV.make (Nat.le_refl _) h (fun q hq => by simp [Value.ownBlock] at hq) (fun q hq => by simp [Value.ownBlock] at hq) ⟨rfl, .inl ⟨rfl, rfl⟩⟩ ⟨rfl, .inl ⟨rfl, rfl⟩⟩ ?_⟩
 rw [SepL]; exact h
set_option maxHeartbeats 4000000 in
set_option maxRecDepth 100000 in
theorem sep_list {A : Option Addr} {c : Nat} {l : List S25} {w : World} (hl : Kd.C k25 w A l.length l) (hcl : l.length ≤ c) (hf : fitV (arrV l) = true) :
  Calls Tryd.prog 30 #[.slice A l.length c] w fun e w' => ∃ u, e = .returned u ∧ Sep w.heap.size w'.heap.size w' (arrV l) u ∧ Below w.heap.size w w' := by
 have kP_ := Tryd.underlying25
 have HL := q0_.mk hl
 have HF := q0_.mk hf
 clear hl hf
 go_enter Tryd.func30, Tryd.ntmps30
 go_wp2_with (first
  | ((with_reducible refine qZ_ (N := 2) rfl ?_); refine qJ_ ?hg (N := 2) ?hd (cs := #[.int .i64 0, .bool false, .string (⟨#[]⟩ : ByteArray), .slice none 0 0, .slice none 0 0]) (t := 25) ?hr ?_; (case hd => rfl); (case hg => rfl); (case hr => first | (go_simp; done) | (go_simp; rfl)); intro gr hgr w1 hbox hb; have GE := q0_.mk hgr; have BK := q0_.mk hbox; have HB := q0_.mk hb; clear hgr hbox hb)
  | (go_at_call 21; refine (sep_copy (x := arrV l) (Kd.qD_ HL.out HB.out) hcl (Kd.C_nil _ _) (Nat.le_refl _) HF.out).mono ?_; rintro e w2 ⟨u, rfl, ho, hb2⟩; obtain ⟨A3, c3, A4, c4, rfl⟩ := ho.form; have SP := q0_.mk ho; have HB2 := q0_.mk hb2; have BK2 := q0_.mk (q2_ BK.out hb2); clear ho hb2; have z0 : w2.cell? ⟨gr, 0, none⟩ = some (.int .i64 0) := (q1_ BK2.out 0).trans rfl; have z1 : w2.cell? ⟨gr, 1, none⟩ = some (.bool false) := (q1_ BK2.out 1).trans rfl; have z2 : w2.cell? ⟨gr, 2, none⟩ = some (.string (⟨#[]⟩ : ByteArray)) := (q1_ BK2.out 2).trans rfl; have z3 : w2.cell? ⟨gr, 3, none⟩ = some (.slice none 0 0) := (q1_ BK2.out 3).trans rfl; have z4 : w2.cell? ⟨gr, 4, none⟩ = some (.slice none 0 0) := (q1_ BK2.out 4).trans rfl; have y0 := q3_ BK2.out 0; have y1 := q3_ BK2.out 1; have y2 := q3_ BK2.out 2; have y3 := q3_ BK2.out 3; have y4 := q3_ BK2.out 4)
  | ((with_reducible refine qH_ (p := 2) rfl ?_); refine qW_ (w1 := w2.setCells gr 0 [.int .i64 4, .bool false, .string (⟨#[]⟩ : ByteArray), .slice A3 l.length c3, .slice A4 0 c4]) rfl rfl rfl ?hr ?_; (case hr => first | (go_simp; done) | (go_simp; rfl)); intro w3 hw; have HW := q0_.mk hw; have BK3 : q0_ (w3.heap[gr]? = some (.cells #[.int .i64 4, .bool false, .string (⟨#[]⟩ : ByteArray), .slice A3 l.length c3, .slice A4 0 c4] 25 (0, 0))) := ⟨by rw [hw]; exact qv_ (qv_ (qv_ (qv_ (qv_ BK2.out 0 _ rfl) 1 _ rfl) 2 _ rfl) 3 _ rfl) 4 _ rfl⟩; clear hw))
 refine bodyPost_ret (results_cell_row rfl _ _ gr 25 #[.int .i64 4, .bool false, .string (⟨#[]⟩ : ByteArray), .slice A3 l.length c3, .slice A4 0 c4] (0, 0) _ rfl BK3.out Tryd.underlying25 rfl (by kernel_rfl)) rfl ?_
 have hge : w.heap.size ≤ gr := Nat.le_of_eq GE.out.symm
 have hlt : gr < w1.heap.size := qY_ BK.out
 have hs3 : w3.heap.size = w2.heap.size := by rw [HW.out]; exact setCells_size _ _ _ _
 refine ⟨_, rfl, ?_, ?_⟩
 ·
  rw [hs3]
  exact Sep.lower (Sep.keep SP.out (fun q a _ => by rw [HW.out]; exact qB_ _ _ q (by omega))) HB.out.size
 ·
  rw [HW.out]
  exact qq_ (qq_ (qq_ (qq_ (qq_ (q4_ HB.out HB2.out) hge) hge) hge) hge) hge
set_option maxHeartbeats 4000000 in
set_option maxRecDepth 100000 in
theorem sep_makeS {A A' : Option Addr} {c c' : Nat} {n : List ByteArray} {l : List S25} {w : World} (hn : Kd.C Kd.string w A n.length n) (hcn : n.length ≤ c) (hl : Kd.C k25 w A' l.length l) (hcl : l.length ≤ c') (he : n.length = l.length) (hf : fitV (objV n l) = true) :
  Calls Tryd.prog 27 #[.slice A n.length c, .slice A' l.length c'] w fun e w' => ∃ u, e = .returned (.tuple #[u, .int .i64 0]) ∧ Sep w.heap.size w'.heap.size w' (objV n l) u ∧ Below w.heap.size w w' := by
 have kP_ := Tryd.underlying25
 have HL := q0_.mk hl
 have HN := q0_.mk hn
 have HF := q0_.mk hf
 have b0 : ((n.length : Int) == (l.length : Int)) = true := beq_iff_eq.mpr (by omega)
 have b1 : ((n.length : Int) != (l.length : Int)) = false := bne_eq_false_iff_eq.mpr (by omega)
 have b2 : (n.length == l.length) = true := by simpa using he
 have b3 : (n.length != l.length) = false := by simpa using he
 clear hl hn hf he
 go_enter Tryd.func27, Tryd.ntmps27
 go_wp2_with (first
  | ((with_reducible refine qZ_ (N := 4) rfl ?_); refine qJ_ ?hg (N := 4) ?hd (cs := #[.int .i64 0, .bool false, .string (⟨#[]⟩ : ByteArray), .slice none 0 0, .slice none 0 0]) (t := 25) ?hr ?_; (case hd => rfl); (case hg => rfl); (case hr => first | (go_simp; done) | (go_simp; rfl)); intro gr hgr w1 hbox hb; have GE := q0_.mk hgr; have BK := q0_.mk hbox; have HB := q0_.mk hb; clear hgr hbox hb)
  | (go_at_call 21; refine (sep_copy (x := objV n l) (Kd.qD_ HL.out HB.out) hcl (Kd.qD_ HN.out HB.out) hcn HF.out).mono ?_; rintro e w2 ⟨u, rfl, ho, hb2⟩; obtain ⟨A3, c3, A4, c4, rfl⟩ := ho.form; have SP := q0_.mk ho; have HB2 := q0_.mk hb2; have BK2 := q0_.mk (q2_ BK.out hb2); clear ho hb2; have z0 : w2.cell? ⟨gr, 0, none⟩ = some (.int .i64 0) := (q1_ BK2.out 0).trans rfl; have z1 : w2.cell? ⟨gr, 1, none⟩ = some (.bool false) := (q1_ BK2.out 1).trans rfl; have z2 : w2.cell? ⟨gr, 2, none⟩ = some (.string (⟨#[]⟩ : ByteArray)) := (q1_ BK2.out 2).trans rfl; have z3 : w2.cell? ⟨gr, 3, none⟩ = some (.slice none 0 0) := (q1_ BK2.out 3).trans rfl; have z4 : w2.cell? ⟨gr, 4, none⟩ = some (.slice none 0 0) := (q1_ BK2.out 4).trans rfl; have y0 := q3_ BK2.out 0; have y1 := q3_ BK2.out 1; have y2 := q3_ BK2.out 2; have y3 := q3_ BK2.out 3; have y4 := q3_ BK2.out 4)
  | ((with_reducible refine qH_ (p := 4) rfl ?_); refine qW_ (w1 := w2.setCells gr 0 [.int .i64 5, .bool false, .string (⟨#[]⟩ : ByteArray), .slice A3 l.length c3, .slice A4 n.length c4]) rfl rfl rfl ?hr ?_; (case hr => first | (go_simp; done) | (go_simp; rfl)); intro w3 hw; have HW := q0_.mk hw; have BK3 : q0_ (w3.heap[gr]? = some (.cells #[.int .i64 5, .bool false, .string (⟨#[]⟩ : ByteArray), .slice A3 l.length c3, .slice A4 n.length c4] 25 (0, 0))) := ⟨by rw [hw]; exact qv_ (qv_ (qv_ (qv_ (qv_ BK2.out 0 _ rfl) 1 _ rfl) 2 _ rfl) 3 _ rfl) 4 _ rfl⟩; clear hw))
 refine bodyPost_ret (results_ct rfl _ _ gr 25 #[.int .i64 5, .bool false, .string (⟨#[]⟩ : ByteArray), .slice A3 l.length c3, .slice A4 n.length c4] (0, 0) _ rfl BK3.out Tryd.underlying25 rfl (by kernel_rfl)) rfl ?_
 have hge : w.heap.size ≤ gr := Nat.le_of_eq GE.out.symm
 have hlt : gr < w1.heap.size := qY_ BK.out
 have hs3 : w3.heap.size = w2.heap.size := by rw [HW.out]; exact setCells_size _ _ _ _
 refine ⟨_, rfl, ?_, ?_⟩
 ·
  rw [hs3]
  exact Sep.lower (Sep.keep SP.out (fun q a _ => by rw [HW.out]; exact qB_ _ _ q (by omega))) HB.out.size
 ·
  rw [HW.out]
  exact qq_ (qq_ (qq_ (qq_ (qq_ (q4_ HB.out HB2.out) hge) hge) hge) hge) hge
set_option maxHeartbeats 4000000 in
set_option maxRecDepth 100000 in
theorem sep_makeS_no {A A' : Option Addr} {c c' : Nat} {n : List ByteArray} {l : List S25} {w : World} (he : n.length ≠ l.length) :
  Calls Tryd.prog 27 #[.slice A n.length c, .slice A' l.length c'] w fun e w' => ∃ u, e = .returned (.tuple #[u, .int .i64 2]) ∧ Sep w.heap.size w'.heap.size w' zV u ∧ Below w.heap.size w w' := by
 have kP_ := Tryd.underlying25
 have b0 : ((n.length : Int) == (l.length : Int)) = false := beq_eq_false_iff_ne.mpr (by omega)
 have b1 : ((n.length : Int) != (l.length : Int)) = true := bne_iff_ne.mpr (by omega)
 have b2 : (n.length == l.length) = false := by simpa using he
 have b3 : (n.length != l.length) = true := by simpa using he
 clear he
 go_enter Tryd.func27, Tryd.ntmps27
 go_wp2_with (first
  | ((with_reducible refine qZ_ (N := 4) rfl ?_); refine qJ_ ?hg (N := 4) ?hd (cs := #[.int .i64 0, .bool false, .string (⟨#[]⟩ : ByteArray), .slice none 0 0, .slice none 0 0]) (t := 25) ?hr ?_; (case hd => rfl); (case hg => rfl); (case hr => first | (go_simp; done) | (go_simp; rfl)); intro gr hgr w1 hbox hb; have GE := q0_.mk hgr; have BK := q0_.mk hbox; have HB := q0_.mk hb; clear hgr hbox hb; have z0 : w1.cell? ⟨gr, 0, none⟩ = some (.int .i64 0) := (q1_ BK.out 0).trans rfl; have z1 : w1.cell? ⟨gr, 1, none⟩ = some (.bool false) := (q1_ BK.out 1).trans rfl; have z2 : w1.cell? ⟨gr, 2, none⟩ = some (.string (⟨#[]⟩ : ByteArray)) := (q1_ BK.out 2).trans rfl; have z3 : w1.cell? ⟨gr, 3, none⟩ = some (.slice none 0 0) := (q1_ BK.out 3).trans rfl; have z4 : w1.cell? ⟨gr, 4, none⟩ = some (.slice none 0 0) := (q1_ BK.out 4).trans rfl; have y0 := q3_ BK.out 0; have y1 := q3_ BK.out 1; have y2 := q3_ BK.out 2; have y3 := q3_ BK.out 3; have y4 := q3_ BK.out 4)
  | ((with_reducible refine qH_ (p := 4) rfl ?_); refine qW_ (w1 := w1.setCells gr 0 [.int .i64 0, .bool false, .string (⟨#[]⟩ : ByteArray), .slice none 0 0, .slice none 0 0]) rfl rfl rfl ?hr ?_; (case hr => first | (go_simp; done) | (go_simp; rfl)); intro w3 hw; have HW := q0_.mk hw; have BK3 : q0_ (w3.heap[gr]? = some (.cells #[.int .i64 0, .bool false, .string (⟨#[]⟩ : ByteArray), .slice none 0 0, .slice none 0 0] 25 (0, 0))) := ⟨by rw [hw]; exact qv_ (qv_ (qv_ (qv_ (qv_ BK.out 0 _ rfl) 1 _ rfl) 2 _ rfl) 3 _ rfl) 4 _ rfl⟩; clear hw))
 refine bodyPost_ret (results_ct rfl _ _ gr 25 #[.int .i64 0, .bool false, .string (⟨#[]⟩ : ByteArray), .slice none 0 0, .slice none 0 0] (0, 0) _ rfl BK3.out Tryd.underlying25 rfl (by kernel_rfl)) rfl ?_
 have hge : w.heap.size ≤ gr := Nat.le_of_eq GE.out.symm
 have hs3 : w3.heap.size = w1.heap.size := by rw [HW.out]; exact setCells_size _ _ _ _
 refine ⟨_, rfl, sep_zero _ _ _ _ _ _ (by rw [hs3]; exact HB.out.size), ?_⟩
 rw [HW.out]
 exact qq_ (qq_ (qq_ (qq_ (qq_ HB.out hge) hge) hge) hge) hge
def TellsS (w : World) (o : Option S25) (e : Ending) (w' : World) : Prop := ∃ u, e = .returned (.tuple #[u, .bool o.isSome]) ∧ Sep w.heap.size w'.heap.size w' (o.getD zV) u ∧ Below w.heap.size w w'
set_option maxHeartbeats 4000000 in
set_option maxRecDepth 100000 in
theorem sep_get_no {x : S25} {v : Value} {w : World} (s : ByteArray) (hr : Rds w x v) (h5 : x.f0 ≠ 5) : Calls Tryd.prog 24 #[v, .string s] w (TellsS w none) := by
 have kP_ := Tryd.underlying25
 obtain ⟨A3, c3, A4, c4, rfl, -, -, -, -⟩ := hr
 have b0 : (x.f0 == 5) = false := by simpa using h5
 have b1 : (x.f0 != 5) = true := by simpa using h5
 clear h5
 go_enter Tryd.func24, Tryd.ntmps24
 go_wp2_with (first
  | ((with_reducible refine qZ_ (N := 2) rfl ?_); refine qJ_ ?hg (N := 2) ?hd (cs := #[.int .i64 x.f0, .bool x.f1, .string x.f2, .slice A3 x.f3.length c3, .slice A4 x.f4.length c4]) (t := 25) ?hr ?_; (case hd => rfl); (case hg => rfl); (case hr => first | (go_simp; done) | (go_simp; rfl)); intro g1 hg1 w1 hbox hb; have BX := q0_.mk hbox; have HB0 := q0_.mk hb; have k0 : w1.cell? ⟨g1, 0, none⟩ = some (.int .i64 x.f0) := (q1_ BX.out 0).trans rfl; clear hg1 hbox hb)
  | ((with_reducible refine qZ_ (N := 4) rfl ?_); refine qJ_ ?hg (N := 4) ?hd (cs := #[.int .i64 0, .bool false, .string (⟨#[]⟩ : ByteArray), .slice none 0 0, .slice none 0 0]) (t := 25) ?hr ?_; (case hd => rfl); (case hg => rfl); (case hr => first | (go_simp; done) | (go_simp; rfl)); intro gr hgr w2 hbox hb; have GE := q0_.mk hgr; have BK := q0_.mk hbox; have HB := q0_.mk (q4_ HB0.out hb); have BX2 := q0_.mk (q2_ BX.out hb); clear hgr hbox hb k0; have k0 : w2.cell? ⟨g1, 0, none⟩ = some (.int .i64 x.f0) := (q1_ BX2.out 0).trans rfl; have k3 : w2.cell? ⟨g1, 3, none⟩ = some (.slice A3 x.f3.length c3) := (q1_ BX2.out 3).trans rfl; have k4 : w2.cell? ⟨g1, 4, none⟩ = some (.slice A4 x.f4.length c4) := (q1_ BX2.out 4).trans rfl; have z0 : w2.cell? ⟨gr, 0, none⟩ = some (.int .i64 0) := (q1_ BK.out 0).trans rfl; have z1 : w2.cell? ⟨gr, 1, none⟩ = some (.bool false) := (q1_ BK.out 1).trans rfl; have z2 : w2.cell? ⟨gr, 2, none⟩ = some (.string (⟨#[]⟩ : ByteArray)) := (q1_ BK.out 2).trans rfl; have z3 : w2.cell? ⟨gr, 3, none⟩ = some (.slice none 0 0) := (q1_ BK.out 3).trans rfl; have z4 : w2.cell? ⟨gr, 4, none⟩ = some (.slice none 0 0) := (q1_ BK.out 4).trans rfl; have y0 := q3_ BK.out 0; have y1 := q3_ BK.out 1; have y2 := q3_ BK.out 2; have y3 := q3_ BK.out 3; have y4 := q3_ BK.out 4)
  | ((with_reducible refine qH_ (p := 4) rfl ?_); refine qW_ (w1 := w2.setCells gr 0 [.int .i64 0, .bool false, .string (⟨#[]⟩ : ByteArray), .slice none 0 0, .slice none 0 0]) rfl rfl rfl ?hr ?_; (case hr => first | (go_simp; done) | (go_simp; rfl)); intro w3 hw; have HW := q0_.mk hw; have BK3 : q0_ (w3.heap[gr]? = some (.cells #[.int .i64 0, .bool false, .string (⟨#[]⟩ : ByteArray), .slice none 0 0, .slice none 0 0] 25 (0, 0))) := ⟨by rw [hw]; exact qv_ (qv_ (qv_ (qv_ (qv_ BK.out 0 _ rfl) 1 _ rfl) 2 _ rfl) 3 _ rfl) 4 _ rfl⟩; clear hw))
 refine bodyPost_ret (results_ct rfl _ _ gr 25 #[.int .i64 0, .bool false, .string (⟨#[]⟩ : ByteArray), .slice none 0 0, .slice none 0 0] (0, 0) _ rfl BK3.out Tryd.underlying25 rfl (by kernel_rfl)) rfl ?_
 have hge : w.heap.size ≤ gr := by rw [GE.out]; exact HB0.out.size
 have hs3 : w3.heap.size = w2.heap.size := by rw [HW.out]; exact setCells_size _ _ _ _
 refine ⟨_, rfl, sep_zero _ _ _ _ _ _ (by rw [hs3]; exact HB.out.size), ?_⟩
 rw [HW.out]
 exact qq_ (qq_ (qq_ (qq_ (qq_ HB.out hge) hge) hge) hge) hge
set_option maxHeartbeats 4000000 in
set_option maxRecDepth 100000 in
theorem sep_get_yes {x : S25} {v : Value} {w : World} (s : ByteArray) (hr : Rds w x v) (hf : fitV x = true) (h5 : x.f0 = 5) : Calls Tryd.prog 24 #[v, .string s] w (TellsS w (getV x.f3 x.f4 s (min x.f4.length x.f3.length))) := by
 have kP_ := Tryd.underlying25
 obtain ⟨A3, c3, A4, c4, rfl, g3, l3, g4, l4⟩ := hr
 have H3 := q0_.mk g3
 have H4 := q0_.mk g4
 have HF := q0_.mk hf
 have hf' : fitV ⟨x.f0, x.f1, x.f2, x.f3, x.f4⟩ = true := by rw [fit_eta]; exact hf
 obtain ⟨_, p2, p3, _, p5⟩ := fit_parts hf'
 have HFE := q0_.mk p5
 clear g3 g4 hf hf' p5
 have b0 : (x.f0 == 5) = true := by simpa using h5
 have b1 : (x.f0 != 5) = false := by simpa using h5
 clear h5
 generalize hmm : min x.f4.length x.f3.length = mm
 have hm1 : (if (x.f3.length : Int) < (x.f4.length : Int) then (x.f3.length : Int) else (x.f4.length : Int)) = (mm : Int) := by rw [← hmm]; split <;> omega
 have hm2 : (if x.f3.length < x.f4.length then (x.f3.length : Int) else (x.f4.length : Int)) = (mm : Int) := by rw [← hmm]; split <;> omega
 have hmb : (mm : Int) ≤ 1000000000000000 := by omega
 have HMM : q0_ (mm ≤ x.f3.length ∧ mm ≤ x.f4.length) := ⟨by omega⟩
 generalize ho : getV x.f3 x.f4 s mm = o
 have HO := q0_.mk ho
 clear ho hmm
 go_enter Tryd.func24, Tryd.ntmps24
 go_wp2_with (first
  | ((with_reducible refine qZ_ (N := 2) rfl ?_); refine qJ_ ?hg (N := 2) ?hd (cs := #[.int .i64 x.f0, .bool x.f1, .string x.f2, .slice A3 x.f3.length c3, .slice A4 x.f4.length c4]) (t := 25) ?hr ?_; (case hd => rfl); (case hg => rfl); (case hr => first | (go_simp; done) | (go_simp; rfl)); intro g1 hg1 w1 hbox hb; have BX := q0_.mk hbox; have HB0 := q0_.mk hb; have k0 : w1.cell? ⟨g1, 0, none⟩ = some (.int .i64 x.f0) := (q1_ BX.out 0).trans rfl; clear hg1 hbox hb)
  | ((with_reducible refine qZ_ (N := 4) rfl ?_); refine qJ_ ?hg (N := 4) ?hd (cs := #[.int .i64 0, .bool false, .string (⟨#[]⟩ : ByteArray), .slice none 0 0, .slice none 0 0]) (t := 25) ?hr ?_; (case hd => rfl); (case hg => rfl); (case hr => first | (go_simp; done) | (go_simp; rfl)); intro gr hgr w2 hbox hb; have GE := q0_.mk hgr; have BK := q0_.mk hbox; have HB := q0_.mk (q4_ HB0.out hb); have BX2 := q0_.mk (q2_ BX.out hb); clear hgr hbox hb k0; have k0 : w2.cell? ⟨g1, 0, none⟩ = some (.int .i64 x.f0) := (q1_ BX2.out 0).trans rfl; have k3 : w2.cell? ⟨g1, 3, none⟩ = some (.slice A3 x.f3.length c3) := (q1_ BX2.out 3).trans rfl; have k4 : w2.cell? ⟨g1, 4, none⟩ = some (.slice A4 x.f4.length c4) := (q1_ BX2.out 4).trans rfl; have z0 : w2.cell? ⟨gr, 0, none⟩ = some (.int .i64 0) := (q1_ BK.out 0).trans rfl; have z1 : w2.cell? ⟨gr, 1, none⟩ = some (.bool false) := (q1_ BK.out 1).trans rfl; have z2 : w2.cell? ⟨gr, 2, none⟩ = some (.string (⟨#[]⟩ : ByteArray)) := (q1_ BK.out 2).trans rfl; have z3 : w2.cell? ⟨gr, 3, none⟩ = some (.slice none 0 0) := (q1_ BK.out 3).trans rfl; have z4 : w2.cell? ⟨gr, 4, none⟩ = some (.slice none 0 0) := (q1_ BK.out 4).trans rfl; have y0 := q3_ BK.out 0; have y1 := q3_ BK.out 1; have y2 := q3_ BK.out 2; have y3 := q3_ BK.out 3; have y4 := q3_ BK.out 4))
 clear z0 z1 z2 z3 z4 y0 y1 y2 y3 y4 k0
 go_loopg [6] (mm + 1) (fun kq v6 w' => ∃ (i : Int) (j : Nat), v6 = .int .i64 i ∧ q0_ (i = (j : Int) - 1 ∧ j ≤ mm ∧ j < kq) ∧ q0_ (getV x.f3 x.f4 s j = o) ∧ q0_ (w' = w2))
 case atStart => exact ⟨_, mm, rfl, ⟨rfl, Nat.le_refl _, by omega⟩, HO, ⟨rfl⟩⟩
 case round =>
  clear HO hm1 hm2 k3 k4
  obtain ⟨i, j, rfl, hj, HO, hw⟩ := hrel
  have e := hw.out.symm
  subst e
  clear hw
  cases gk with
  | zero => exact absurd hj.out.2.2 (by omega)
  | succ k1 =>
   have k0 : w2.cell? ⟨g1, 0, none⟩ = some (.int .i64 x.f0) := (q1_ BX2.out 0).trans rfl
   have k3 : w2.cell? ⟨g1, 3, none⟩ = some (.slice A3 x.f3.length c3) := (q1_ BX2.out 3).trans rfl
   have k4 : w2.cell? ⟨g1, 4, none⟩ = some (.slice A4 x.f4.length c4) := (q1_ BX2.out 4).trans rfl
   have z0 : w2.cell? ⟨gr, 0, none⟩ = some (.int .i64 0) := (q1_ BK.out 0).trans rfl
   have z1 : w2.cell? ⟨gr, 1, none⟩ = some (.bool false) := (q1_ BK.out 1).trans rfl
   have z2 : w2.cell? ⟨gr, 2, none⟩ = some (.string (⟨#[]⟩ : ByteArray)) := (q1_ BK.out 2).trans rfl
   have z3 : w2.cell? ⟨gr, 3, none⟩ = some (.slice none 0 0) := (q1_ BK.out 3).trans rfl
   have z4 : w2.cell? ⟨gr, 4, none⟩ = some (.slice none 0 0) := (q1_ BK.out 4).trans rfl
   have y0 := q3_ BK.out 0
   have y1 := q3_ BK.out 1
   have y2 := q3_ BK.out 2
   have y3 := q3_ BK.out 3
   have y4 := q3_ BK.out 4
   have hge : w.heap.size ≤ gr := by rw [GE.out]; exact HB0.out.size
   by_cases hi : 0 ≤ i
   ·
    have c9 : decide (0 ≤ i) = true := decide_eq_true hi
    have q4 : i < (x.f4.length : Int) := by have := hj.out; have := HMM.out; omega
    have q3 : i < (x.f3.length : Int) := by have := hj.out; have := HMM.out; omega
    have hx : rdOf ByteArray.empty x.f4 i = rdOf ByteArray.empty x.f4 ((j - 1 : Nat) : Int) := by congr 1; have := hj.out; omega
    have hy : qj_ x.f3 i = qj_ x.f3 ((j - 1 : Nat) : Int) := by congr 1; have := hj.out; omega
    have hgv : getV x.f3 x.f4 s j = if rdOf ByteArray.empty x.f4 i = s then some (qj_ x.f3 i) else getV x.f3 x.f4 s (j - 1) := by
     rw [hx, hy]
     have := hj.out
     obtain ⟨j', rfl⟩ : ∃ j', j = j' + 1 := ⟨j - 1, by omega⟩
     rw [getV]; rfl
    have HGV := q0_.mk hgv
    clear hgv hx hy
    obtain ⟨ad, e1, hx0⟩ := Kd.at_string H4.out i hi q4
    cases e1
    replace hx0 := (HB.out.cell (World.block_lt_of_cell? w _ hx0)).trans hx0
    by_cases hq : (rdOf ByteArray.empty x.f4 i).toList = s.toList
    ·
     have d0 : ((rdOf ByteArray.empty x.f4 i).toList == s.toList) = true := beq_iff_eq.mpr hq
     have HQ := q0_.mk hq
     clear hq
     obtain ⟨ad3, X3, e3, X4, e4, e2, hy0, hy1, hy2, hy3, hy4, hl3, hi3, hl4, hi4⟩ := at_T25 H3.out i hi q3
     cases e2
     replace hy0 := (HB.out.cell (World.block_lt_of_cell? w _ hy0)).trans hy0
     replace hy1 := (HB.out.cell (World.block_lt_of_cell? w _ hy1)).trans hy1
     replace hy2 := (HB.out.cell (World.block_lt_of_cell? w _ hy2)).trans hy2
     replace hy3 := (HB.out.cell (World.block_lt_of_cell? w _ hy3)).trans hy3
     replace hy4 := (HB.out.cell (World.block_lt_of_cell? w _ hy4)).trans hy4
     have I3 := q0_.mk hi3
     have I4 := q0_.mk hi4
     have HM : q0_ (fitV (qj_ x.f3 i) = true) := ⟨fitL_mem HFE.out (mem_T25 hi q3)⟩
     clear hi3 hi4
     generalize hz : qj_ x.f3 i = z at hy0 hy1 hy2 hy3 hy4 hl3 hl4 I3 I4 HM
     have HZ := q0_.mk hz
     clear hz
     go_wp2_with (first
      | (go_at_call 21; refine (sep_copy (x := z) (Kd.qD_ I3.out HB.out) hl3 (Kd.qD_ I4.out HB.out) hl4 HM.out).mono ?_; rintro e w3 ⟨u, rfl, ho, hb2⟩; obtain ⟨B3, d3, B4, d4, rfl⟩ := ho.form; have SP := q0_.mk ho; have HB2 := q0_.mk hb2; have BK2 := q0_.mk (q2_ BK.out hb2); clear ho hb2 z0 z1 z2 z3 z4 y0 y1 y2 y3 y4; have z0 : w3.cell? ⟨gr, 0, none⟩ = some (.int .i64 0) := (q1_ BK2.out 0).trans rfl; have z1 : w3.cell? ⟨gr, 1, none⟩ = some (.bool false) := (q1_ BK2.out 1).trans rfl; have z2 : w3.cell? ⟨gr, 2, none⟩ = some (.string (⟨#[]⟩ : ByteArray)) := (q1_ BK2.out 2).trans rfl; have z3 : w3.cell? ⟨gr, 3, none⟩ = some (.slice none 0 0) := (q1_ BK2.out 3).trans rfl; have z4 : w3.cell? ⟨gr, 4, none⟩ = some (.slice none 0 0) := (q1_ BK2.out 4).trans rfl; have y0 := q3_ BK2.out 0; have y1 := q3_ BK2.out 1; have y2 := q3_ BK2.out 2; have y3 := q3_ BK2.out 3; have y4 := q3_ BK2.out 4)
      | ((with_reducible refine qH_ (p := 4) rfl ?_); refine qW_ (w1 := w3.setCells gr 0 [.int .i64 z.f0, .bool z.f1, .string z.f2, .slice B3 z.f3.length d3, .slice B4 z.f4.length d4]) rfl rfl rfl ?hr ?_; (case hr => first | (go_simp; done) | (go_simp; rfl)); intro w4 hw; have HW := q0_.mk hw; have BK3 : q0_ (w4.heap[gr]? = some (.cells #[.int .i64 z.f0, .bool z.f1, .string z.f2, .slice B3 z.f3.length d3, .slice B4 z.f4.length d4] 25 (0, 0))) := ⟨by rw [hw]; exact qv_ (qv_ (qv_ (qv_ (qv_ BK2.out 0 _ rfl) 1 _ rfl) 2 _ rfl) 3 _ rfl) 4 _ rfl⟩; clear hw))
     refine bodyPost_ret (results_ct rfl _ _ gr 25 #[.int .i64 z.f0, .bool z.f1, .string z.f2, .slice B3 z.f3.length d3, .slice B4 z.f4.length d4] (0, 0) _ rfl BK3.out Tryd.underlying25 rfl (by kernel_rfl)) rfl ?_
     have hlt : gr < w2.heap.size := qY_ BK.out
     have hs3 : w4.heap.size = w3.heap.size := by rw [HW.out]; exact setCells_size _ _ _ _
     have ho : o = some z := by rw [← HO.out, HGV.out, if_pos ((v_text _ _).mp HQ.out), HZ.out]
     subst ho
     refine ⟨_, rfl, ?_, ?_⟩
     ·
      rw [hs3]
      exact Sep.lower (Sep.keep SP.out (fun q a _ => by rw [HW.out]; exact qB_ _ _ q (by omega))) HB.out.size
     ·
      rw [HW.out]
      exact qq_ (qq_ (qq_ (qq_ (qq_ (q4_ HB.out HB2.out) hge) hge) hge) hge) hge
    ·
     have d0 : ((rdOf ByteArray.empty x.f4 i).toList == s.toList) = false := beq_eq_false_iff_ne.mpr hq
     have HQ := q0_.mk hq
     clear hq
     go_wp2_with fail
     go_roundg k1
     case measure => omega
     case rel => exact ⟨_, j - 1, rfl, ⟨by have := hj.out; omega⟩, ⟨by rw [← HO.out, HGV.out, if_neg (fun e => HQ.out (by rw [e]))]⟩, ⟨rfl⟩⟩
   ·
    have c9 : decide (0 ≤ i) = false := decide_eq_false hi
    have hj0 : j = 0 := by have := hj.out; omega
    have ho : o = none := by rw [← HO.out, hj0]; rfl
    clear hj0
    have HON := q0_.mk ho
    clear ho
    go_wp2_with (first
     | ((with_reducible refine qH_ (p := 4) rfl ?_); refine qW_ (w1 := w2.setCells gr 0 [.int .i64 0, .bool false, .string (⟨#[]⟩ : ByteArray), .slice none 0 0, .slice none 0 0]) rfl rfl rfl ?hr ?_; (case hr => first | (go_simp; done) | (go_simp; rfl)); intro w3 hw; have HW := q0_.mk hw; have BK3 : q0_ (w3.heap[gr]? = some (.cells #[.int .i64 0, .bool false, .string (⟨#[]⟩ : ByteArray), .slice none 0 0, .slice none 0 0] 25 (0, 0))) := ⟨by rw [hw]; exact qv_ (qv_ (qv_ (qv_ (qv_ BK.out 0 _ rfl) 1 _ rfl) 2 _ rfl) 3 _ rfl) 4 _ rfl⟩; clear hw))
    refine bodyPost_ret (results_ct rfl _ _ gr 25 #[.int .i64 0, .bool false, .string (⟨#[]⟩ : ByteArray), .slice none 0 0, .slice none 0 0] (0, 0) _ rfl BK3.out Tryd.underlying25 rfl (by kernel_rfl)) rfl ?_
    have hs3 : w3.heap.size = w2.heap.size := by rw [HW.out]; exact setCells_size _ _ _ _
    have ho := HON.out
    subst ho
    refine ⟨_, rfl, sep_zero _ _ _ _ _ _ (by rw [hs3]; exact HB.out.size), ?_⟩
    rw [HW.out]
    exact qq_ (qq_ (qq_ (qq_ (qq_ HB.out hge) hge) hge) hge) hge
theorem sem_getS {x : S25} {v : Value} {w : World} (s : ByteArray) (hr : Rds w x v) (hf : fitV x = true) : Calls Tryd.prog 24 #[v, .string s] w (TellsS w (memberV x s)) := by
 unfold memberV
 by_cases h5 : x.f0 = 5
 · rw [if_pos h5]; exact sep_get_yes s hr hf h5
 · rw [if_neg h5]; exact sep_get_no s hr h5
end Go.Proofs.YtfpmompdgmklmaaDoor.P
