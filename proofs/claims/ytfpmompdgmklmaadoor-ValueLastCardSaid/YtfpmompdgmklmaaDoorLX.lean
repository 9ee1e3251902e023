/- ValueLast: of an object that was made of members Get tells the last one of a name: plain facts, an append to a row of one's own. -/
import Derived.Test.YtfpmompdgmklmaaDoorVH
import Derived.Test.YtfpmompdgmklmaaDoorVA
import Derived.Test.YtfpmompdgmklmaaDoorV11
import Derived.DataShut
namespace Go.Proofs.YtfpmompdgmklmaaDoor.P
open Go.RowKit Go.Proofs.YtfpmompdgmklmaaDoorW.PrintWords Go.Proofs.YtfpmompdgmklmaaDoorW.PrintLast Go.Proofs.YtfpmompdgmklmaaDoorW.PrintMore
set_option linter.unusedVariables false
set_option linter.unusedSimpArgs false
set_option maxHeartbeats 4000000 in
set_option maxRecDepth 100000 in
theorem sem_number_lit (n : Int) (w : World) (h0 : -9223372036854775808 ≤ n) (h1 : n ≤ 9223372036854775807) (hT : TAB w) : Calls Tryd.prog 26 #[.int .i64 n] w fun e w' => e = .returned (.agg #[.int .i64 2, .bool false, .string (numS n), .slice none 0 0, .slice none 0 0]) ∧ Below w.heap.size w w' := by
  have hu25 := Tryd.underlying25
  have HT := Aside0.mk hT
  have HF : Aside0 (strconv_Itoa_44.f n = some (numS n)) := ⟨by unfold strconv_Itoa_44.f; rw [if_pos ⟨h0, h1⟩]; rfl⟩
  clear h0 h1 hT
  go_enter Tryd.func26, Tryd.ntmps26
  go_wp2_with (first
    | ((with_reducible refine gate_dst (N := 2) rfl ?_); refine box_event ?hg (N := 2) ?hd (cs := #[.int .i64 0, .bool false, .string (⟨#[]⟩ : ByteArray), .slice none 0 0, .slice none 0 0]) (t := 25) ?hr ?_; (case hd => rfl); (case hg => rfl); (case hr => first | (go_simp; done) | (go_simp; rfl)); intro gr hgr w1 hbox hb; have GE := Aside0.mk hgr; have BK := Aside0.mk hbox; have HB := Aside0.mk hb; clear hgr hbox hb)
    | (go_at_call 44; (with_reducible refine (strconv_Itoa_44.calls n _ _ (TAB.below HT.out HB.out) HF.out).mono ?_); rintro e w2 ⟨rfl, hb2⟩; have HB2 := Aside0.mk hb2; have BK2 := Aside0.mk (blk_below BK.out hb2); clear hb2; obtain ⟨z0, z1, z2, z3, z4, y0, y1, y2, y3, y4⟩ := blk5z BK2.out)
    | ((with_reducible refine gate_store (p := 2) rfl ?_); refine store_event (w1 := w2.setCells gr 0 [.int .i64 2, .bool false, .string (numS n), .slice none 0 0, .slice none 0 0]) rfl rfl rfl ?hr ?_; (case hr => first | (go_simp; done) | (go_simp; rfl)); intro w3 hw; have HW := Aside0.mk hw; have BK3 : Aside0 (w3.heap[gr]? = some (.cells #[.int .i64 2, .bool false, .string (numS n), .slice none 0 0, .slice none 0 0] 25 (0, 0))) := ⟨by rw [hw]; exact blk_put5 BK2.out⟩; clear hw))
  refine bodyPost_ret (results_cell_row rfl _ _ gr 25 #[.int .i64 2, .bool false, .string (numS n), .slice none 0 0, .slice none 0 0] (0, 0) _ rfl BK3.out Tryd.underlying25 rfl (by kernel_rfl)) rfl ?_
  have hge : w.heap.size ≤ gr := Nat.le_of_eq GE.out.symm
  refine ⟨rfl, ?_⟩
  rw [HW.out]
  exact below_set5 (below_step HB.out HB2.out) hge
/-- the names -/
def allN : List ByteArray := [⟨#[]⟩, ⟨#[97]⟩, ⟨#[98]⟩, ⟨#[97, 97]⟩, ⟨#[65]⟩, ⟨#[106, 115, 111, 110, 114, 112, 99]⟩, ⟨#[105, 100]⟩, ⟨#[0]⟩]
def nmK (k : Nat) : ByteArray := allN.getD k ⟨#[]⟩
theorem nm_inj : ∀ i, i < 8 → ∀ j, j < 8 → (nmK i = nmK j ↔ i = j) := by decide +kernel
/-- where the last one of a name stands, from 1 on; 0: nowhere -/
def lastI (I : List Nat) (k : Nat) : Nat → Nat
  | 0 => 0
  | i + 1 => if I.getD i 0 = k then i + 1 else lastI I k i
theorem lastI_le (I : List Nat) (k : Nat) : ∀ i, lastI I k i ≤ i
  | 0 => Nat.le_refl _
  | i + 1 => by rw [lastI]; split; exact Nat.le_refl _; have := lastI_le I k i; omega
def numsV (n : Nat) : List S25 := (List.range n).map fun i : Nat => numV ((i : Int) + 1)
theorem numsV_len (n : Nat) : (numsV n).length = n := by simp [numsV]
theorem numsV_succ (n : Nat) : numsV (n + 1) = numsV n ++ [numV ((n : Int) + 1)] := by simp [numsV, List.range_succ]
theorem getV_last (I : List Nat) (k : Nat) (hk : k < 8) (hI : ∀ i ∈ I, i < 8) : ∀ i, i ≤ I.length → getV (numsV I.length) (I.map nmK) (nmK k) i = if lastI I k i = 0 then none else some (numV (lastI I k i : Int))
  | 0, _ => by simp [getV, lastI]
  | i + 1, hi => by
    have hlt : i < I.length := by omega
    have e1 : rdOf ByteArray.empty (I.map nmK) (i : Int) = nmK (I.getD i 0) := by
      unfold rdOf
      rw [Int.toNat_natCast, List.getD_eq_getElem?_getD, List.getElem?_map, List.getElem?_eq_getElem hlt, List.getD_eq_getElem?_getD, List.getElem?_eq_getElem hlt]; rfl
    have e2 : rd_T25 (numsV I.length) (i : Int) = numV ((i : Int) + 1) := by
      unfold rd_T25
      rw [Int.toNat_natCast, List.getD_eq_getElem?_getD]
      simp [numsV, hlt]
    have h8 : I.getD i 0 < 8 := by
      rw [List.getD_eq_getElem?_getD, List.getElem?_eq_getElem hlt]; exact hI _ (List.getElem_mem hlt)
    rw [getV, e1, e2, lastI]
    by_cases hc : I.getD i 0 = k
    · rw [if_pos ((nm_inj _ h8 _ hk).mpr hc), if_pos hc, if_neg (by omega)]
      rfl
    · rw [if_neg (fun h => hc ((nm_inj _ h8 _ hk).mp h)), if_neg hc]
      exact getV_last I k hk hI i (by omega)
theorem member_last (I : List Nat) (k : Nat) (hk : k < 8) (hI : ∀ i ∈ I, i < 8) : memberV (objV (I.map nmK) (numsV I.length)) (nmK k) = if lastI I k I.length = 0 then none else some (numV (lastI I k I.length : Int)) := by
  have h := getV_last I k hk hI I.length (Nat.le_refl _)
  unfold memberV objV
  rw [if_pos rfl]
  simp only [List.length_map, numsV_len, Nat.min_self]
  exact h
section
variable {P : Program} {ops : Array Oper} {rest : List Oper} {o : Oper} {a : Act} {Q : Exit → Act → World → Prop} {α : Type}
/-- An element behind a row of the call's own. -/
theorem append_R (d : Kd α) {w0 W : World} (base : Nat) (hg : o.guard = none) (s x : Operand) (t e : TypeId) (z : Value) (bytes : Nat)
    (ho : o.op = .call { callee := .builtin .append, args := #[s, x], argTypes := #[t, t] })
    (ht : P.underlying t = some (.slice e)) (hinfo : (P.info? e).map (fun i => (i.zero, i.size, i.bytes)) = some (some z, d.sz, bytes)) (hz : z.cells.size = d.sz) (hs0 : 0 < d.sz) (hb0 : 0 < bytes)
    (v : Value) (xs : List α) (p : α) (cs : List Value) (ok okp : Nat → Prop) (hs : a.eval s = v) (hx : a.eval x = .slice (some ⟨W.heap.size, 0, none⟩) 1 1) (hp : d.M W base okp p cs) (hokp : ∀ k, okp k → ok k ∧ some k ≠ v.ownBlock) (hfresh : ∀ k, W.heap.size ≤ k → ok k)
    (HO : d.R e W base ok v xs) (HB : Below base w0 W) (hbase : base ≤ W.heap.size) (hl : (xs.length + 1) * bytes ≤ 140737488355328)
    (h : ∀ v1 w1, d.R e w1 base ok v1 (xs ++ [p]) → Below base w0 w1 → W.grownBy w1 v.ownBlock → (v1.ownBlock = v.ownBlock ∨ ∃ b, v1.ownBlock = some b ∧ W.heap.size ≤ b) → wpList P ops Q rest (a.put o.dst v1) w1) : wpList P ops Q (o :: rest) a (W.alloc (.cells cs.toArray e)) := by
  refine wpList_plain hg fun K hK => ?_
  have hw : Region.wanted o (yielded ops a.tmps) = true := by simp [Region.wanted, hg]
  have := Kd.R_append_step (P := P) (ops := ops) (o := o) (a := a) (Q := Q) (Kc := K) d base hw s x t e z bytes ho ht hinfo hz hs0 hb0 v xs p cs ok okp hs hx hp hokp hfresh HO HB hbase hl (fun v1 w1 h1 h2 h3 h4 => hK _ _ (h v1 w1 h1 h2 h3 h4))
  rwa [if_pos hw] at this
end
theorem at_u8 {w : World} {A : Option Addr} {n : Nat} {l : List Int} (h : Kd.C (Kd.int .u8) w A n l) (j : Nat) (hj : j < l.length) : ∃ ad, A = some ad ∧ w.cell? (ad.add j) = some (.int .u8 (l.getD j 0)) := by
  obtain ⟨h1, h2, h3⟩ := h
  obtain ⟨ad, e, h4⟩ := h3 (by omega)
  obtain ⟨c, hc1, hc2, hc3⟩ := h4 j _ (List.getElem?_eq_getElem hj)
  have hc2 : c = [.int .u8 l[j]] := hc2
  subst hc2
  have := hc3 0 _ rfl
  refine ⟨ad, e, ?_⟩
  rw [List.getD_eq_getElem?_getD, List.getElem?_eq_getElem hj]
  have e2 : j * (Kd.int .u8).sz + 0 = j := by show j * 1 + 0 = j; omega
  rw [e2] at this
  exact this
end Go.Proofs.YtfpmompdgmklmaaDoor.P
/- ValueLast: the walk. -/
namespace Go.Proofs.YtfpmompdgmklmaaDoor.P
open Go.RowKit Go.Proofs.YtfpmompdgmklmaaDoorW.PrintWords Go.Proofs.YtfpmompdgmklmaaDoorW.PrintLast Go.Proofs.YtfpmompdgmklmaaDoorW.PrintMore
set_option linter.unusedVariables false
set_option linter.unusedSimpArgs false
theorem bits7 : ∀ k : Fin 256, bits BinOp.and IntKind.u8 ((k.val : Nat) : Int) 7 = ((k.val % 8 : Nat) : Int) := by decide +kernel
theorem bits7' (b : Int) (h0 : 0 ≤ b) (h1 : b ≤ 255) : ∃ k : Nat, k < 8 ∧ (b % 8).toNat = k ∧ bits BinOp.and IntKind.u8 b 7 = (k : Int) := by
  have := bits7 ⟨b.toNat, by omega⟩
  rw [show ((b.toNat : Nat) : Int) = b by omega] at this
  exact ⟨b.toNat % 8, by omega, by omega, this⟩
theorem add0 (g k : Nat) : (⟨g, 0, none⟩ : Addr).add k = ⟨g, k, none⟩ := by
  unfold Addr.add; split <;> simp_all
theorem lastI_take (I : List Nat) (k : Nat) : ∀ i j, i ≤ j → lastI I k i = lastI (I.take j) k i
  | 0, _, _ => rfl
  | i + 1, j, h => by
    rw [lastI, lastI, lastI_take I k i j (by omega)]
    have : I.getD i 0 = (I.take j).getD i 0 := by
      rw [List.getD_eq_getElem?_getD, List.getD_eq_getElem?_getD, List.getElem?_take_of_lt (by omega)]
    rw [this]
theorem nm_size : ∀ i, i < 8 → (nmK i).size ≤ 10 := by decide +kernel
theorem nm_size' (i : Nat) : (nmK i).size ≤ 10 := by
  by_cases h : i < 8
  · exact nm_size i h
  · have : nmK i = ⟨#[]⟩ := by unfold nmK; rw [List.getD_eq_getElem?_getD, List.getElem?_eq_none (by show 8 ≤ i; omega)]; rfl
    rw [this]; decide
theorem fitL_nums : ∀ l : List Nat, (∀ i ∈ l, i < 1000) → fitL (l.map fun i : Nat => numV ((i : Int) + 1)) = true
  | [], _ => by simp [fitL]
  | i :: l, h => by
    have h1 := h i (by simp)
    have h2 : fitV (numV ((i : Int) + 1)) = true := fit_mk (by have := numS_size ((i : Int) + 1) (by omega) (by omega); omega) (by simp) (by simp) (fun s hs => by simp at hs) rfl
    rw [List.map_cons, fitL, h2, fitL_nums l (fun j hj => h j (by simp [hj]))]; rfl
theorem fit_last (I : List Nat) (h : I.length ≤ 40) : fitV (objV (I.map nmK) (numsV I.length)) = true :=
  fit_mk (by decide) (by rw [numsV_len]; omega) (by rw [List.length_map]; omega) (fun s hs => by obtain ⟨i, _, rfl⟩ := List.mem_map.mp hs; have := nm_size' i; omega) (fitL_nums _ (fun i hi => by have := List.mem_range.mp hi; omega))
theorem sem_get_at2 {x y : S25} {v : Value} {w : World} {s : ByteArray} {o : Option S25} {b : Bool} (ho : memberV x s = o) (hy : o.getD zV = y) (hb : o.isSome = b) (hr : Rds w x v) (hf : fitV x = true) :
    Calls Tryd.prog 24 #[v, .string s] w fun e w' => ∃ A3 c3 A4 c4, e = .returned (.tuple #[.agg #[.int .i64 y.f0, .bool y.f1, .string y.f2, .slice A3 y.f3.length c3, .slice A4 y.f4.length c4], .bool b]) ∧ Own w.heap.size w'.heap.size w' y (.agg #[.int .i64 y.f0, .bool y.f1, .string y.f2, .slice A3 y.f3.length c3, .slice A4 y.f4.length c4]) ∧ Below w.heap.size w w' := by
  refine (sem_get s hr hf).mono ?_
  rintro e w' ⟨u, rfl, hs, hb'⟩
  rw [ho] at hs ⊢
  rw [hy] at hs
  rw [hb]
  obtain ⟨A3, c3, A4, c4, rfl, -, -, -, -⟩ := hs.reads
  exact ⟨A3, c3, A4, c4, rfl, hs, hb'⟩
theorem row_kept {α : Type} {d : Kd α} {e B : Nat} {W w1 : World} {v v1 v4 : Value} {xs : List α} (h : Kd.R d e W B (fun k => some k ≠ v.ownBlock) v4 xs) (hg : W.grownBy w1 v.ownBlock) (hn : v1.ownBlock = v.ownBlock ∨ ∃ b, v1.ownBlock = some b ∧ W.heap.size ≤ b) : Kd.R d e w1 B (fun k => some k ≠ v1.ownBlock) v4 xs :=
  Kd.R_mono (Kd.R_move (Kd.R_bound h) (fun k hk => hg.block k hk.2.2.1 hk.1)) (fun k hk => by
    rcases hn with e | ⟨b, e, hle⟩
    · rw [e]; exact hk.1
    · rw [e]; intro he; injection he with he; have := hk.2.2.1; omega)
theorem row_alloc {α : Type} {d : Kd α} {e B : Nat} {W : World} {ok : Nat → Prop} {v : Value} {xs : List α} (h : Kd.R d e W B ok v xs) (o : Obj) : Kd.R d e (W.alloc o) B ok v xs := R_below h (below_alloc (Below.refl _ _) o)
theorem row_set {α : Type} {d : Kd α} {e B : Nat} {W : World} {ok : Nat → Prop} {v : Value} {xs : List α} (h : Kd.R d e W B ok v xs) {g : Nat} (hg : g < B) (j : Nat) (u : Value) : Kd.R d e (W.setCell ⟨g, j, none⟩ u) B ok v xs :=
  Kd.R_mono (Kd.R_move (Kd.R_bound h) (fun k hk => Below.heap_setCell W ⟨g, j, none⟩ u k (by have := hk.2.1; show k ≠ g; omega))) (fun _ hk => hk.1)
theorem names_apart {e B : Nat} {W : World} {v v4 : Value} {xs : List ByteArray} {ys : List S25} (h : Kd.R Kd.string 9 W B (fun _ => True) v xs) (h4 : Kd.R k25 25 W B (fun k => some k ≠ v.ownBlock) v4 ys) {w1 : World} (hg : W.grownBy w1 v4.ownBlock) : Kd.R Kd.string 9 w1 B (fun _ => True) v xs := by
  have h' : Kd.R Kd.string 9 W B (fun k => some k ≠ v4.ownBlock) v xs := ⟨fun k hk he => (h4.1 k he.symm) hk.symm, h.2⟩
  exact Kd.R_mono (Kd.R_move (Kd.R_bound h') (fun k hk => hg.block k hk.2.2.1 hk.1)) (fun _ _ => trivial)
def LA (lt : Nat → Int) : Array Value := #[.int .i64 (lt 0), .int .i64 (lt 1), .int .i64 (lt 2), .int .i64 (lt 3), .int .i64 (lt 4), .int .i64 (lt 5), .int .i64 (lt 6), .int .i64 (lt 7)]
def NA : Array Value := #[.string (⟨#[]⟩ : ByteArray), .string (⟨#[97]⟩ : ByteArray), .string (⟨#[98]⟩ : ByteArray), .string (⟨#[97, 97]⟩ : ByteArray), .string (⟨#[65]⟩ : ByteArray), .string (⟨#[106, 115, 111, 110, 114, 112, 99]⟩ : ByteArray), .string (⟨#[105, 100]⟩ : ByteArray), .string (⟨#[0]⟩ : ByteArray)]
theorem LA_at (lt : Nat → Int) : ∀ k, k < 8 → (LA lt)[k]? = some (.int .i64 (lt k))
  | 0, _ => rfl | 1, _ => rfl | 2, _ => rfl | 3, _ => rfl | 4, _ => rfl | 5, _ => rfl | 6, _ => rfl | 7, _ => rfl
theorem NA_at : ∀ k, k < 8 → NA[k]? = some (.string (nmK k))
  | 0, _ => rfl | 1, _ => rfl | 2, _ => rfl | 3, _ => rfl | 4, _ => rfl | 5, _ => rfl | 6, _ => rfl | 7, _ => rfl
theorem LA_set (lt : Nat → Int) (v : Int) : ∀ k, k < 8 → (LA lt).setIfInBounds k (.int .i64 v) = LA (fun j => if j = k then v else lt j)
  | 0, _ => rfl | 1, _ => rfl | 2, _ => rfl | 3, _ => rfl | 4, _ => rfl | 5, _ => rfl | 6, _ => rfl | 7, _ => rfl
set_option maxHeartbeats 4000000 in
set_option maxRecDepth 100000 in
theorem last_walk (l : List Int) (A : Option Addr) (c : Nat) (w : World) (hr : Kd.C (Kd.int .u8) w A l.length l) (hc : l.length ≤ c) (h8 : ∀ x ∈ l, 0 ≤ x ∧ x ≤ 255) (hT : TAB w) : Calls Tryd.prog 8 #[.slice A l.length c] w fun e w' => e = .returned (.bool true) ∧ Below w.heap.size w w' := by
  have hu25 := Tryd.underlying25
  have hu23 := Tryd.underlying23
  have hu22 := Tryd.underlying22
  have hi9 : (Tryd.prog.info? 9).map (fun i => (i.zero, i.size, i.bytes)) = some (some (.string ByteArray.empty), 1, 16) := by rfl
  have HI9 := Aside0.mk hi9
  have HI25 : Aside0 ((Tryd.prog.info? 25).map (fun i => (i.zero, i.size, i.bytes)) = some (some (.agg #[.int .i64 0, .bool false, .string ByteArray.empty, .slice none 0 0, .slice none 0 0]), 5, 80)) := ⟨by rfl⟩
  have HT := Aside0.mk hT
  have HR := Aside0.mk hr
  have H8 := Aside0.mk h8
  obtain ⟨n, hn⟩ : ∃ n, l.length = n := ⟨_, rfl⟩
  rw [hn] at HR ⊢
  have HN := Aside0.mk hn
  clear hi9 hT hr h8 hc hn
  go_enter Tryd.func8, Tryd.ntmps8
  go_upto_region 5 with (fail)
  have k1 : ((w.alloc (.cells (LA (fun _ => 0)) 40)).alloc (.cells NA 9)).heap[w.heap.size]? = some (.cells (LA (fun _ => 0)) 40 (0, 0)) := blk_alloc (blk_new w _) _
  have k2 := blk_new (w.alloc (.cells (LA (fun _ => 0)) 40)) (.cells NA 9)
  rw [World.size_alloc] at k2
  have B1 := Aside0.mk (below_alloc (below_alloc (Below.refl w.heap.size w) (.cells (LA (fun _ => 0)) 40)) (.cells NA 9))
  have hz : w.heap.size + 1 < ((w.alloc (.cells (LA (fun _ => 0)) 40)).alloc (.cells NA 9)).heap.size := by simp
  have K1 := Aside0.mk k1
  have K2 := Aside0.mk k2
  have HZ := Aside0.mk hz
  clear k1 k2 hz
  show Code.wp _ _ _ _ ((w.alloc (.cells (LA (fun _ => 0)) 40)).alloc (.cells NA 9))
  generalize (w.alloc (.cells (LA (fun _ => 0)) 40)).alloc (.cells NA 9) = w1 at *
  obtain ⟨I, hI⟩ : ∃ I, l.map (fun x => (x % 8).toNat) = I := ⟨_, rfl⟩
  have HI := Aside0.mk hI
  go_wp2_with (fail)
  go_loopg [3, 4, 7] 41 (fun kq s3 s4 s7 wr => ∃ (j : Nat) (lt : Nat → Int), s7 = .int .i64 (j : Int) ∧ Aside0 (j ≤ n ∧ j ≤ 40 ∧ 41 ≤ kq + j) ∧ Aside0 (Kd.R Kd.string 9 wr w1.heap.size (fun _ => True) s3 ((I.take j).map nmK)) ∧ Aside0 (Kd.R k25 25 wr w1.heap.size (fun k => some k ≠ s3.ownBlock) s4 (numsV j)) ∧ Aside0 (wr.heap[w.heap.size]? = some (.cells (LA lt) 40 (0, 0))) ∧ Aside0 (∀ k, k < 8 → lt k = (lastI I k j : Int)) ∧ Aside0 (wr.heap[w.heap.size + 1]? = some (.cells NA 9 (0, 0))) ∧ Aside0 (Below w.heap.size w wr) ∧ Aside0 (w1.heap.size ≤ wr.heap.size))
  case atStart => exact ⟨0, fun _ => 0, rfl, ⟨by omega⟩, ⟨Kd.R_nil _ _ _ _ _⟩, ⟨Kd.R_nil _ _ _ _ _⟩, K1, ⟨fun _ _ => rfl⟩, K2, B1, ⟨Nat.le_refl _⟩⟩
  case round =>
    obtain ⟨j, lt, rfl, hj, RN, RV, BL, HL, BN, SB, SZ⟩ := hrel
    cases gk with
    | zero => exact absurd hj.out (by omega)
    | succ kk =>
      by_cases hlt : j < n ∧ j < 40
      · have t1 : decide (j < n) = true := decide_eq_true hlt.1
        have t2 : decide ((j : Int) < 40) = true := decide_eq_true (by omega)
        obtain ⟨ad, rfl, hx00⟩ := at_u8 HR.out j (by rw [HN.out]; exact hlt.1)
        have hx := (SB.out.cell (World.block_lt_of_cell? _ _ hx00)).trans hx00
        have hm : l.getD j 0 ∈ l := by rw [List.getD_eq_getElem?_getD, List.getElem?_eq_getElem (by rw [HN.out]; exact hlt.1)]; exact List.getElem_mem _
        have hIj : I.getD j 0 = (l.getD j 0 % 8).toNat := by
          rw [← HI.out, List.getD_eq_getElem?_getD, List.getElem?_map, List.getD_eq_getElem?_getD, List.getElem?_eq_getElem (by rw [HN.out]; exact hlt.1)]; rfl
        obtain ⟨k, hk8, hk, hbits⟩ := bits7' _ (H8.out _ hm).1 (H8.out _ hm).2
        rw [hk] at hIj
        generalize l.getD j 0 = b at hx00 hx hbits
        have HX00 := Aside0.mk hx00
        clear hx00
        have HIJ := Aside0.mk hIj
        have HK8 := Aside0.mk hk8
        have q1 : (0 : Int) ≤ (k : Int) := by omega
        have q2 : (k : Int) < 8 := by omega
        have cn := (blk_cell BN.out k).trans (NA_at k hk8)
        have cn' : w.heap.size + 1 = w.heap.size + 1 → wr.cell? ((⟨w.heap.size + 1, 0, none⟩ : Addr).add k) = some (.string (nmK k)) := fun _ => by rw [add0]; exact cn
        have cn2 := cn' rfl
        clear cn' hm hIj hk8 hk
        have HLT := Aside0.mk hlt
        have p1 : (0 : Int) ≤ (j : Int) := by omega
        have p2 : (j : Int) < (n : Int) := by omega
        clear hlt
        have HX := Aside0.mk hx
        have hj1 : wrap64 ((j : Int) + 1) = (j : Int) + 1 := v_wrap (by omega) (by have := hj.out; omega)
        go_upto_region 10 with (first
          | (at_builtin; refine append_R Kd.string (w0 := wr) w1.heap.size rfl (.tmp 25) (.tmp 34) 23 9 (.string ByteArray.empty) 16 rfl hu23 HI9.out rfl (by decide) (by decide) _ ((I.take j).map nmK) (nmK k) [.string (nmK k)] (fun _ => True) (fun _ => False) rfl rfl rfl (fun _ hk => hk.elim) (fun _ _ => trivial) RN.out (Below.refl _ _) SZ.out (by have := hj.out; simp only [List.length_map, List.length_take]; omega) ?_; intro v1 wn hR hB hG hN; have RN1 := Aside0.mk hR; have RV1 := Aside0.mk (row_kept RV.out hG hN); have SB1 := Aside0.mk (SB.out.trans (hB.mono (show w.heap.size ≤ w1.heap.size from by have := HZ.out; omega))); have SZ1 := Aside0.mk (Nat.le_trans SZ.out hG.size); have BL1 := Aside0.mk ((hB.block _ (by have := HZ.out; omega)).trans BL.out); have BN1 := Aside0.mk ((hB.block _ HZ.out).trans BN.out); clear hR hB hG hN)
          | (go_at_call 26; (with_reducible refine (sem_number_lit ((j : Int) + 1) _ (by omega) (by have := hj.out; omega) (TAB.below HT.out SB1.out)).mono ?_); rintro e wm ⟨rfl, hb⟩; have RN2 := Aside0.mk (R_below RN1.out hb); have RV2 := Aside0.mk (R_below RV1.out hb); have SB2 := Aside0.mk (below_step SB1.out hb); have SZ2 := Aside0.mk (Nat.le_trans SZ1.out hb.size); have BL2 := Aside0.mk (blk_below BL1.out hb); have BN2 := Aside0.mk (blk_below BN1.out hb); clear hb)
          | (at_builtin; refine append_R k25 (w0 := wm) w1.heap.size rfl (.tmp 36) (.tmp 40) 22 25 (.agg #[.int .i64 0, .bool false, .string ByteArray.empty, .slice none 0 0, .slice none 0 0]) 80 rfl hu22 HI25.out rfl (by decide) (by decide) _ (numsV j) (numV ((j : Int) + 1)) [.int .i64 2, .bool false, .string (numS ((j : Int) + 1)), .slice none 0 0, .slice none 0 0] (fun k => some k ≠ v1.ownBlock) (fun _ => False) rfl rfl (k25_mkM _ _ _ (numV ((j : Int) + 1)) (Kd.R_nil _ _ _ _ _) (Kd.R_nil _ _ _ _ _)) (fun _ hk => hk.elim) (fun q hq he => absurd (own_ge RN2.out q he.symm).2 (Nat.not_lt.mpr hq)) RV2.out (Below.refl _ _) SZ2.out (by have := hj.out; rw [numsV_len]; omega) ?_; intro v4 wo hR hB hG hN; have RV3 := Aside0.mk hR; have RN3 := Aside0.mk (names_apart (e := 0) RN2.out RV2.out hG); have SB3 := Aside0.mk (SB2.out.trans (hB.mono (show w.heap.size ≤ w1.heap.size from by have := HZ.out; omega))); have SZ3 := Aside0.mk (Nat.le_trans SZ2.out hG.size); have BL3 := Aside0.mk ((hB.block _ (by have := HZ.out; omega)).trans BL2.out); have BN3 := Aside0.mk ((hB.block _ HZ.out).trans BN2.out); clear hR hB hG hN))
        have hx3 := (SB3.out.cell (World.block_lt_of_cell? _ _ HX00.out)).trans HX00.out
        have cl := (blk_cell BL3.out k).trans (LA_at lt k HK8.out)
        have fl := blk_frozen BL3.out k
        clear cn cn2 hx
        go_wp2_with (fail)
        go_roundg kk
        case measure => omega
        case rel =>
          have hjl : j < I.length := by rw [← HI.out, List.length_map, HN.out]; exact HLT.out.1
          have htk : (I.take (j + 1)).map nmK = (I.take j).map nmK ++ [nmK k] := by
            rw [List.take_succ_eq_append_getElem hjl, List.map_append]
            have := HIJ.out
            rw [List.getD_eq_getElem?_getD, List.getElem?_eq_getElem hjl] at this
            simp only [Option.getD_some] at this
            rw [this]; rfl
          have hgl : w.heap.size < w1.heap.size := by have := HZ.out; omega
          refine ⟨j + 1, fun q => if q = k then (j : Int) + 1 else lt q, by go_num, ⟨by have := hj.out; have := HLT.out; omega⟩, ⟨by rw [htk]; exact row_set RN3.out hgl k _⟩, ⟨by rw [numsV_succ]; exact row_set RV3.out hgl k _⟩, ⟨blk_put BL3.out k _ (LA_set lt _ k HK8.out)⟩, ⟨fun q hq => ?_⟩, ⟨(Below.heap_setCell wo ⟨w.heap.size, k, none⟩ _ (w.heap.size + 1) (by show _ ≠ w.heap.size; omega)).trans BN3.out⟩, ⟨below_set SB3.out (Nat.le_refl _)⟩, ⟨by have := SZ3.out; simpa using this⟩⟩
          show (if q = k then (j : Int) + 1 else lt q) = _
          rw [lastI, HIJ.out]
          by_cases hqk : q = k
          · rw [if_pos hqk, if_pos hqk.symm]; omega
          · rw [if_neg hqk, if_neg (fun e => hqk e.symm)]; exact HL.out q hq
      · obtain ⟨ns, hns⟩ : ∃ ns, (I.take j).map nmK = ns := ⟨_, rfl⟩
        obtain ⟨vs, hvs⟩ : ∃ vs, numsV j = vs := ⟨_, rfl⟩
        have hIl : (I.take j).length = j := by rw [List.length_take, ← HI.out, List.length_map, HN.out]; have := hj.out; omega
        have hnl : ns.length = j := by rw [← hns, List.length_map, hIl]
        have hvl : vs.length = j := by rw [← hvs, numsV_len]
        have hI8 : ∀ i ∈ I.take j, i < 8 := fun i hi => by
          have := List.mem_of_mem_take hi
          rw [← HI.out] at this
          obtain ⟨x, _, rfl⟩ := List.mem_map.mp this
          omega
        have hlast : ∀ k, k < 8 → lt k = (lastI (I.take j) k j : Int) := fun k hk => by rw [HL.out k hk, lastI_take I k j j (Nat.le_refl _)]
        have HM := Aside0.mk (fun k (hk : k < 8) => member_last (I.take j) k hk hI8)
        rw [hIl, hns, hvs] at HM
        have HF := Aside0.mk (fit_last (I.take j) (by rw [hIl]; exact hj.out.2.1))
        rw [hIl, hns, hvs] at HF
        have hrn := RN.out
        have hrv := RV.out
        rw [hns] at hrn
        rw [hvs] at hrv
        obtain ⟨A3, c3, rfl, l3, C3⟩ := Kd.R_reads hrn
        obtain ⟨A4, c4, rfl, l4, C4⟩ := Kd.R_reads hrv
        have SM := Aside0.mk (fun (W : World) (hb : Below wr.heap.size wr W) => sem_make (Kd.C_below C3 hb) l3 (Kd.C_below C4 hb) l4 (hnl.trans hvl.symm) HF.out)
        rw [hnl, hvl] at SM ⊢
        have HNL := Aside0.mk hnl
        have HVL := Aside0.mk hvl
        have HLA := Aside0.mk hlast
        have HJ := Aside0.mk hj.out
        by_cases c1 : j < n
        all_goals
          (first | have t1 : decide (j < n) = true := decide_eq_true c1 | have t1 : decide (j < n) = false := decide_eq_false c1)
          (first | have t2 : decide ((j : Int) < 40) = false := decide_eq_false (by omega) | skip)
          clear hns hvs hIl hnl hvl hI8 hlast hrn hrv l3 l4 C3 C4 hlt c1 RN RV HL hj
          go_wp2_with (first
            | (go_at_call 27; refine (SM.out _ (Below.refl _ _)).mono ?_; rintro e w6 ⟨u, rfl, ho, hb⟩; obtain ⟨uo3, uo4, rfl, hu3, hu4⟩ := ho; obtain ⟨Ao3, co3, rfl⟩ := Kd.R_slice hu3; obtain ⟨Ao4, co4, rfl⟩ := Kd.R_slice hu4; have OWo := Aside0.mk (show Own wr.heap.size w6.heap.size w6 (objV ns vs) (.agg #[.int .i64 5, .bool false, .string (⟨#[]⟩ : ByteArray), .slice Ao3 vs.length co3, .slice Ao4 ns.length co4]) from ⟨_, _, rfl, hu3, hu4⟩); have S6 := Aside0.mk hb; clear hb hu3 hu4)
            | ((with_reducible refine gate_dst (N := 8) rfl ?_); refine box_event ?hg (N := 8) ?hd (cs := #[.int .i64 0, .bool false, .string (⟨#[]⟩ : ByteArray), .slice none 0 0, .slice none 0 0]) (t := 25) ?hr ?_; (case hd => rfl); (case hg => rfl); (case hr => first | (go_simp; done) | (go_simp; rfl)); intro go hg wao hbox hb; have SAo := Aside0.mk hb; have BAo := Aside0.mk hbox; have GAo := Aside0.mk hg; clear hg hb hbox; obtain ⟨zo_0, zo_1, zo_2, zo_3, zo_4, yo_0, yo_1, yo_2, yo_3, yo_4⟩ := blk5z BAo.out)
            | ((with_reducible refine gate_store (p := 8) rfl ?_); refine store_event (w1 := wao.setCells go 0 [.int .i64 5, .bool false, .string (⟨#[]⟩ : ByteArray), .slice Ao3 vs.length co3, .slice Ao4 ns.length co4]) rfl rfl rfl ?hr ?_; (case hr => first | (go_simp; done) | (go_simp; rfl)); intro w7 hw_; have BKo : Aside0 (w7.heap[go]? = some (.cells #[.int .i64 5, .bool false, .string (⟨#[]⟩ : ByteArray), .slice Ao3 vs.length co3, .slice Ao4 ns.length co4] 25 (0, 0))) := ⟨by rw [hw_]; exact (blk_put5 BAo.out)⟩; have S7 : Aside0 (Below w6.heap.size w6 w7) := ⟨by rw [hw_]; exact (below_set5 SAo.out (Nat.le_of_eq GAo.out.symm))⟩; clear hw_ SAo BAo zo_0 yo_0 zo_1 yo_1 zo_2 yo_2 zo_3 yo_3 zo_4 yo_4; have S67 := Aside0.mk (below_step S6.out S7.out); have RDo := Aside0.mk (OWo.out.below S7.out).reads; have BL7 := Aside0.mk (blk_below BL.out S67.out); have BN7 := Aside0.mk (blk_below BN.out S67.out); have SB7 := Aside0.mk (below_step SB.out S67.out)))
          go_loopg [10] 9 (fun kq s10 wr => ∃ k : Nat, s10 = .int .i64 (k : Int) ∧ Aside0 (k ≤ 8 ∧ 8 < kq + k) ∧ Aside0 (Below w7.heap.size w7 wr))
          case atStart => exact ⟨0, rfl, ⟨by omega⟩, ⟨Below.refl _ _⟩⟩
          case round =>
            obtain ⟨k, rfl, hk, SQ⟩ := hrel
            cases gk with
            | zero => exact absurd hk.out (by omega)
            | succ kk =>
              have HTq := Aside0.mk (TAB.below HT.out (below_step SB7.out SQ.out))
              by_cases hlt : k < 8
              ·
                have t1 : decide ((k : Int) < 8) = true := decide_eq_true (by omega)
                have RDq := Aside0.mk (RDo.out.below SQ.out)
                have BKq := Aside0.mk (blk_below BKo.out SQ.out)
                have BLq := Aside0.mk (blk_below BL7.out SQ.out)
                have BNq := Aside0.mk (blk_below BN7.out SQ.out)
                have HK8 := Aside0.mk hlt
                obtain ⟨q, hq⟩ : ∃ q, lastI (I.take j) k j = q := ⟨_, rfl⟩
                have hmem := HM.out k hlt
                have hlk := HLA.out k hlt
                rw [hq] at hmem hlk
                have hqj : q ≤ 40 := by have := lastI_le (I.take j) k j; have := HJ.out; omega
                have HLK := Aside0.mk hlk
                have HQJ := Aside0.mk hqj
                obtain ⟨o, ho⟩ : ∃ o, memberV (objV ns vs) (nmK k) = o := ⟨_, rfl⟩
                obtain ⟨y, hy⟩ : ∃ y, o.getD zV = y := ⟨_, rfl⟩
                obtain ⟨b, hb⟩ : ∃ b, o.isSome = b := ⟨_, rfl⟩
                rw [ho] at hmem
                have HMEM := Aside0.mk hmem
                have HO := Aside0.mk ho
                have HY := Aside0.mk hy
                have HB := Aside0.mk hb
                have p1 : (0 : Int) ≤ (k : Int) := by omega
                have p2 : (k : Int) < 8 := by omega
                have HX0 := Aside0.mk ((blk_cell BNq.out k).trans (NA_at k hlt))
                have GLq := Aside0.mk (blk_lt BKq.out)
                obtain ⟨ko_0, ko_1, ko_2, ko_3, ko_4⟩ := blk5 BKq.out
                clear hq hmem hlk hqj ho hy hb hlt
                go_upto_region 17 with (fail)
                (try simp only [Act.put, List.setIfInBounds_toArray, List.set_cons_zero, List.set_cons_succ])
                go_cut [11, 12] (fun s8 s9 wx => ∃ (ga : Nat) (Ay3 Ay4 : Option Addr) (cy3 cy4 : Nat), s8 = .pointer (some ⟨ga, 0, none⟩) ∧ s9 = .bool b ∧ Aside0 (wx.heap[ga]? = some (.cells #[.int .i64 y.f0, .bool y.f1, .string y.f2, .slice Ay3 y.f3.length cy3, .slice Ay4 y.f4.length cy4] 25 (0, 0))) ∧ Aside0 (Rds wx y (.agg #[.int .i64 y.f0, .bool y.f1, .string y.f2, .slice Ay3 y.f3.length cy3, .slice Ay4 y.f4.length cy4])) ∧ Aside0 (Below wr.heap.size wr wx))
                case first =>
                  have SB := Aside0.mk (below_drew (Below.refl wr.heap.size wr))
                  refine wp_region_held_drew (S := fun W' => Below wr.heap.size wr W') (by kernel_rfl) SB.out (fun hS0 => ?_)
                  have hS0 : Below wr.heap.size wr wr.drew := hS0
                  generalize wr.drew = V0 at *
                  (refine wpAnyH_take (i := 0) (v := ?_) rfl (by kernel_rfl) (by kernel_rfl) (by kernel_rfl) (fun _ _ _ h => h) (Or.inl ⟨by rfl, ?_⟩) (by assumption) ?_; rotate_left; (focus (intro w_ hSw; have e0_ := (hSw.cell (p := ⟨go, 0, none⟩) GLq.out).trans ko_0; have e1_ := (hSw.cell (p := ⟨go, 1, none⟩) GLq.out).trans ko_1; have e2_ := (hSw.cell (p := ⟨go, 2, none⟩) GLq.out).trans ko_2; have e3_ := (hSw.cell (p := ⟨go, 3, none⟩) GLq.out).trans ko_3; have e4_ := (hSw.cell (p := ⟨go, 4, none⟩) GLq.out).trans ko_4; clear hSw; go_simp; try with_reducible rfl)); (try simp only [List.getElem_toArray, List.getElem_cons_zero, List.getElem_cons_succ, Act.put, List.setIfInBounds_toArray, List.set_cons_zero, List.set_cons_succ]))
                  (refine wpAnyH_take (i := 1) (v := ?_) rfl (by kernel_rfl) (by kernel_rfl) (by kernel_rfl) (fun _ _ _ h => h) (Or.inl ⟨by rfl, ?_⟩) (by assumption) ?_; rotate_left; (focus (intro w_ hSw; clear hSw; go_simp; try with_reducible rfl)); (try simp only [List.getElem_toArray, List.getElem_cons_zero, List.getElem_cons_succ, Act.put, List.setIfInBounds_toArray, List.set_cons_zero, List.set_cons_succ]))
                  (refine wpAnyH_take (i := 2) (v := ?_) rfl (by kernel_rfl) (by kernel_rfl) (by kernel_rfl) (fun _ _ _ h => h) (Or.inl ⟨by rfl, ?_⟩) (by assumption) ?_; rotate_left; (focus (intro w_ hSw; clear hSw; go_simp; try with_reducible rfl)); (try simp only [List.getElem_toArray, List.getElem_cons_zero, List.getElem_cons_succ, Act.put, List.setIfInBounds_toArray, List.set_cons_zero, List.set_cons_succ]))
                  (refine wpAnyH_take (i := 3) (v := ?_) rfl (by kernel_rfl) (by kernel_rfl) (by kernel_rfl) (fun _ _ _ h => h) (Or.inl ⟨by rfl, ?_⟩) (by assumption) ?_; rotate_left; (focus (intro w_ hSw; clear hSw; go_simp; try with_reducible rfl)); (try simp only [List.getElem_toArray, List.getElem_cons_zero, List.getElem_cons_succ, Act.put, List.setIfInBounds_toArray, List.set_cons_zero, List.set_cons_succ]))
                  (refine wpAnyH_take (i := 4) (v := ?_) rfl (by kernel_rfl) (by kernel_rfl) (by kernel_rfl) (fun _ _ _ h => h) (Or.inl ⟨by rfl, ?_⟩) (by assumption) ?_; rotate_left; (focus (intro w_ hSw; have e0_ := (hSw.cell (World.block_lt_of_cell? _ _ HX0.out)).trans HX0.out; clear hSw; go_simp; try with_reducible rfl)); (try simp only [List.getElem_toArray, List.getElem_cons_zero, List.getElem_cons_succ, Act.put, List.setIfInBounds_toArray, List.set_cons_zero, List.set_cons_succ]))
                  refine wpAnyH_ready (rs := [5, 9]) (by decide +kernel) (by simp) ?_
                  refine (AllReadyH.cons (i := 5) rfl (fun K_ hK => ?_) (AllReadyH.cons (i := 9) rfl (fun K_ hK => ?_) AllReadyH.nil))
                  ·
                    refine step_of rfl ?_
                    (go_simp; go_at_call 24; refine (sem_get_at2 HO.out HY.out HB.out (RDq.out.below SB.out) HF.out).mono ?_; rintro e V1 ⟨Ay3, cy3, Ay4, cy4, rfl, ho, hb_⟩; have OWy := Aside0.mk ho; clear ho)
                    have LOy : Aside0 (wr.heap.size ≤ V0.heap.size) := ⟨SB.out.size⟩
                    refine hK.out _ _ (below_step SB.out hb_) (fun hS1 => ?_)
                    clear hK K_; (try simp only [List.getElem_toArray, List.getElem_cons_zero, List.getElem_cons_succ, Act.put, List.setIfInBounds_toArray, List.set_cons_zero, List.set_cons_succ])
                    replace SB := Aside0.mk (below_step SB.out hb_)
                    have HHy : Aside0 (V1.heap.size ≤ V1.heap.size) := ⟨Nat.le_refl _⟩
                    clear hb_
                    (refine wpAnyH_take (i := 6) (v := ?_) rfl (by kernel_rfl) (by kernel_rfl) (by kernel_rfl) (fun _ _ _ h => h) (Or.inl ⟨by rfl, ?_⟩) (by assumption) ?_; rotate_left; (focus (intro w_ hSw; clear hSw; go_simp; try with_reducible rfl)); (try simp only [List.getElem_toArray, List.getElem_cons_zero, List.getElem_cons_succ, Act.put, List.setIfInBounds_toArray, List.set_cons_zero, List.set_cons_succ]))
                    (refine wpAnyH_take (i := 7) (v := ?_) rfl (by kernel_rfl) (by kernel_rfl) (by kernel_rfl) (fun _ _ _ h => h) (Or.inl ⟨by rfl, ?_⟩) (by assumption) ?_; rotate_left; (focus (intro w_ hSw; clear hSw; go_simp; try with_reducible rfl)); (try simp only [List.getElem_toArray, List.getElem_cons_zero, List.getElem_cons_succ, Act.put, List.setIfInBounds_toArray, List.set_cons_zero, List.set_cons_succ]))
                    (refine wpAnyH_take (i := 8) (v := ?_) rfl (by kernel_rfl) (by kernel_rfl) (by kernel_rfl) (fun _ _ _ h => h) (Or.inl ⟨by rfl, ?_⟩) (by assumption) ?_; rotate_left; (focus (intro w_ hSw; clear hSw; go_simp; try with_reducible rfl)); (try simp only [List.getElem_toArray, List.getElem_cons_zero, List.getElem_cons_succ, Act.put, List.setIfInBounds_toArray, List.set_cons_zero, List.set_cons_succ]))
                    refine wpAnyH_ready (rs := [9]) (by decide +kernel) (by simp) ?_
                    refine (AllReadyH.cons (i := 9) rfl (fun K_ hK => ?_) AllReadyH.nil)
                    refine step_of rfl ?_
                    go_simp
                    refine hK.out _ _ (below_alloc SB.out _) (fun hS1 => ?_)
                    clear hK K_; (try simp only [List.getElem_toArray, List.getElem_cons_zero, List.getElem_cons_succ, Act.put, List.setIfInBounds_toArray, List.set_cons_zero, List.set_cons_succ])
                    have hb_ := below_alloc (Below.refl V1.heap.size V1) (Obj.cells #[.int .i64 0, .bool false, .string (⟨#[]⟩ : ByteArray), .slice none 0 0, .slice none 0 0] 25)
                    obtain ⟨ga, hg_⟩ : ∃ g, g = V1.heap.size := ⟨_, rfl⟩
                    have ZB := Aside0.mk (blk_new V1 (Obj.cells #[.int .i64 0, .bool false, .string (⟨#[]⟩ : ByteArray), .slice none 0 0, .slice none 0 0] 25))
                    rw [← hg_] at ZB
                    have ZG := Aside0.mk (show wr.heap.size ≤ ga from hg_ ▸ SB.out.size)
                    have ZF := Aside0.mk (Nat.le_of_eq hg_.symm)
                    generalize V1.alloc (Obj.cells #[.int .i64 0, .bool false, .string (⟨#[]⟩ : ByteArray), .slice none 0 0, .slice none 0 0] 25) = V2 at *
                    rw [← hg_]
                    replace OWy := Aside0.mk (OWy.out.below hb_)
                    replace HHy := Aside0.mk (Nat.le_trans HHy.out hb_.size)
                    replace SB := Aside0.mk (below_step SB.out hb_)
                    clear hg_ hb_
                    obtain ⟨z0, z1, z2, z3, z4, y0, y1, y2, y3, y4⟩ := blk5z ZB.out
                    refine wpAnyH_ready (rs := [10]) (by decide +kernel) (by simp) ?_
                    refine AllReadyH.cons (i := 10) rfl (fun K_ hK => ?_) AllReadyH.nil
                    refine step_of rfl ?_
                    go_simp
                    obtain ⟨l1, l2, l3⟩ := leafC ZB.out (Or.inr ZF.out) OWy.out SB.out ZG.out
                    refine hK.out _ _ l3 (fun hS1 => ?_)
                    clear hK K_; (try simp only [List.getElem_toArray, List.getElem_cons_zero, List.getElem_cons_succ, Act.put, List.setIfInBounds_toArray, List.set_cons_zero, List.set_cons_succ])
                    (refine wpAnyH_take (i := 11) (v := ?_) rfl (by kernel_rfl) (by kernel_rfl) (by kernel_rfl) (fun _ _ _ h => h) (Or.inl ⟨by rfl, ?_⟩) (by assumption) ?_; rotate_left; (focus (intro w_ hSw; clear hSw; go_simp; try with_reducible rfl)); (try simp only [List.getElem_toArray, List.getElem_cons_zero, List.getElem_cons_succ, Act.put, List.setIfInBounds_toArray, List.set_cons_zero, List.set_cons_succ]))
                    refine wpAnyH_done (by decide +kernel) ?_ _
                    (go_wp2_with (fail); go_meet; case rel => exact ⟨_, _, _, _, _, rfl, rfl, ⟨l1⟩, ⟨l2⟩, ⟨l3⟩⟩)
                  ·
                    refine step_of rfl ?_
                    go_simp
                    refine hK.out _ _ (below_alloc SB.out _) (fun hS1 => ?_)
                    clear hK K_; (try simp only [List.getElem_toArray, List.getElem_cons_zero, List.getElem_cons_succ, Act.put, List.setIfInBounds_toArray, List.set_cons_zero, List.set_cons_succ])
                    have hb_ := below_alloc (Below.refl V0.heap.size V0) (Obj.cells #[.int .i64 0, .bool false, .string (⟨#[]⟩ : ByteArray), .slice none 0 0, .slice none 0 0] 25)
                    obtain ⟨ga, hg_⟩ : ∃ g, g = V0.heap.size := ⟨_, rfl⟩
                    have ZB := Aside0.mk (blk_new V0 (Obj.cells #[.int .i64 0, .bool false, .string (⟨#[]⟩ : ByteArray), .slice none 0 0, .slice none 0 0] 25))
                    rw [← hg_] at ZB
                    have ZG := Aside0.mk (show wr.heap.size ≤ ga from hg_ ▸ SB.out.size)
                    generalize V0.alloc (Obj.cells #[.int .i64 0, .bool false, .string (⟨#[]⟩ : ByteArray), .slice none 0 0, .slice none 0 0] 25) = V1 at *
                    rw [← hg_]
                    replace SB := Aside0.mk (below_step SB.out hb_)
                    clear hg_ hb_
                    refine wpAnyH_ready (rs := [5]) (by decide +kernel) (by simp) ?_
                    refine (AllReadyH.cons (i := 5) rfl (fun K_ hK => ?_) AllReadyH.nil)
                    refine step_of rfl ?_
                    have GL := Aside0.mk (blk_lt ZB.out)
                    (go_simp; go_at_call 24; refine (sem_get_at2 HO.out HY.out HB.out (RDq.out.below SB.out) HF.out).mono ?_; rintro e V2 ⟨Ay3, cy3, Ay4, cy4, rfl, ho, hb_⟩; have OWy := Aside0.mk ho; clear ho)
                    have LOy : Aside0 (wr.heap.size ≤ V1.heap.size) := ⟨SB.out.size⟩
                    refine hK.out _ _ (below_step SB.out hb_) (fun hS1 => ?_)
                    clear hK K_; (try simp only [List.getElem_toArray, List.getElem_cons_zero, List.getElem_cons_succ, Act.put, List.setIfInBounds_toArray, List.set_cons_zero, List.set_cons_succ])
                    replace ZB := Aside0.mk (blk_below ZB.out hb_)
                    replace SB := Aside0.mk (below_step SB.out hb_)
                    have HHy : Aside0 (V2.heap.size ≤ V2.heap.size) := ⟨Nat.le_refl _⟩
                    clear hb_
                    (refine wpAnyH_take (i := 6) (v := ?_) rfl (by kernel_rfl) (by kernel_rfl) (by kernel_rfl) (fun _ _ _ h => h) (Or.inl ⟨by rfl, ?_⟩) (by assumption) ?_; rotate_left; (focus (intro w_ hSw; clear hSw; go_simp; try with_reducible rfl)); (try simp only [List.getElem_toArray, List.getElem_cons_zero, List.getElem_cons_succ, Act.put, List.setIfInBounds_toArray, List.set_cons_zero, List.set_cons_succ]))
                    (refine wpAnyH_take (i := 7) (v := ?_) rfl (by kernel_rfl) (by kernel_rfl) (by kernel_rfl) (fun _ _ _ h => h) (Or.inl ⟨by rfl, ?_⟩) (by assumption) ?_; rotate_left; (focus (intro w_ hSw; clear hSw; go_simp; try with_reducible rfl)); (try simp only [List.getElem_toArray, List.getElem_cons_zero, List.getElem_cons_succ, Act.put, List.setIfInBounds_toArray, List.set_cons_zero, List.set_cons_succ]))
                    (refine wpAnyH_take (i := 8) (v := ?_) rfl (by kernel_rfl) (by kernel_rfl) (by kernel_rfl) (fun _ _ _ h => h) (Or.inl ⟨by rfl, ?_⟩) (by assumption) ?_; rotate_left; (focus (intro w_ hSw; clear hSw; go_simp; try with_reducible rfl)); (try simp only [List.getElem_toArray, List.getElem_cons_zero, List.getElem_cons_succ, Act.put, List.setIfInBounds_toArray, List.set_cons_zero, List.set_cons_succ]))
                    obtain ⟨z0, z1, z2, z3, z4, y0, y1, y2, y3, y4⟩ := blk5z ZB.out
                    refine wpAnyH_ready (rs := [10]) (by decide +kernel) (by simp) ?_
                    refine AllReadyH.cons (i := 10) rfl (fun K_ hK => ?_) AllReadyH.nil
                    refine step_of rfl ?_
                    go_simp
                    obtain ⟨l1, l2, l3⟩ := leafC ZB.out (Or.inl GL.out) OWy.out SB.out ZG.out
                    refine hK.out _ _ l3 (fun hS1 => ?_)
                    clear hK K_; (try simp only [List.getElem_toArray, List.getElem_cons_zero, List.getElem_cons_succ, Act.put, List.setIfInBounds_toArray, List.set_cons_zero, List.set_cons_succ])
                    (refine wpAnyH_take (i := 11) (v := ?_) rfl (by kernel_rfl) (by kernel_rfl) (by kernel_rfl) (fun _ _ _ h => h) (Or.inl ⟨by rfl, ?_⟩) (by assumption) ?_; rotate_left; (focus (intro w_ hSw; clear hSw; go_simp; try with_reducible rfl)); (try simp only [List.getElem_toArray, List.getElem_cons_zero, List.getElem_cons_succ, Act.put, List.setIfInBounds_toArray, List.set_cons_zero, List.set_cons_succ]))
                    refine wpAnyH_done (by decide +kernel) ?_ _
                    (go_wp2_with (fail); go_meet; case rel => exact ⟨_, _, _, _, _, rfl, rfl, ⟨l1⟩, ⟨l2⟩, ⟨l3⟩⟩)
                case rest =>
                  obtain ⟨ga9, Af3, Af4, cf3, cf4, rfl, rfl, BK9, RD9, SW9⟩ := hcut
                  generalize hwq : wc = wp at *
                  clear hwq
                  clear ko_0 ko_1 ko_2 ko_3 ko_4
                  have HTp := Aside0.mk (TAB.below HTq.out SW9.out)
                  have BLp := Aside0.mk (blk_below BLq.out SW9.out)
                  have j1 : wrap64 ((k : Int) + 1) = (k : Int) + 1 := v_wrap (by omega) (by omega)
                  have hmem := HMEM.out
                  by_cases hq0 : q = 0
                  ·
                    rw [if_pos hq0] at hmem
                    have hb := HB.out
                    rw [hmem] at hb
                    have hb : false = b := hb
                    subst hb
                    have ql : ∀ t : Ext wp, t.v.cell? ⟨w.heap.size, k, none⟩ = some (.int .i64 0) := fun t => (blk_cell (blk_below BLp.out t.b) k).trans ((LA_at lt k HK8.out).trans (by rw [HLK.out, hq0]; rfl))
                    clear hmem hq0
                    go_upto_region 18 with (fail)
                    (try simp only [Act.put, List.setIfInBounds_toArray, List.set_cons_zero, List.set_cons_succ])
                    refine region_ext (by kernel_rfl) (by kernel_rfl) ?_
                    repeat (go_big_quiet_step (fail))
                    refine wpQuiet_nil ?_
                    intro _ hw'
                    obtain ⟨t, hw''⟩ := hw'
                    subst hw''
                    go_wp2_with (fail)
                    go_roundg kk
                    case measure => omega
                    case rel => exact ⟨k + 1, by go_num, ⟨by have := hk.out; have := HK8.out; omega⟩, ⟨below_step SQ.out (below_step SW9.out t.b)⟩⟩
                  ·
                    rw [if_neg hq0] at hmem
                    have hb := HB.out
                    have hy := HY.out
                    rw [hmem] at hb hy
                    have hb : true = b := hb
                    have hy : numV (q : Int) = y := hy
                    subst hb
                    subst hy
                    have qp : (0 : Int) < (q : Int) := by omega
                    have qd : decide ((0 : Int) < (q : Int)) = true := decide_eq_true qp
                    have qn : decide (0 < q) = true := decide_eq_true (by omega)
                    have QP := Aside0.mk qp
                    have ql : ∀ t : Ext wp, t.v.cell? ⟨w.heap.size, k, none⟩ = some (.int .i64 (q : Int)) := fun t => (blk_cell (blk_below BLp.out t.b) k).trans ((LA_at lt k HK8.out).trans (by rw [HLK.out]))
                    have qy_0 := ext_box BK9.out 0 (.int .i64 (numV (q : Int)).f0) rfl
                    have qy_1 := ext_box BK9.out 1 (.bool (numV (q : Int)).f1) rfl
                    have qy_2 := ext_box BK9.out 2 (.string (numV (q : Int)).f2) rfl
                    have qy_3 := ext_box BK9.out 3 (.slice Af3 (numV (q : Int)).f3.length cf3) rfl
                    have qy_4 := ext_box BK9.out 4 (.slice Af4 (numV (q : Int)).f4.length cf4) rfl
                    clear hmem hq0 qp
                    go_upto_region 18 with (fail)
                    (try simp only [Act.put, List.setIfInBounds_toArray, List.set_cons_zero, List.set_cons_succ])
                    refine region_ext (by kernel_rfl) (by kernel_rfl) ?_
                    repeat (go_big_quiet_step ((first
                      | exact ext_call (sem_number_lit (q : Int) _ (by have := QP.out; omega) (by have := HQJ.out; omega) (TAB.below HTp.out (Ext.b _)))
                      | exact ext_call (sem_equal_same (x := numV (q : Int)) (RD9.out.below (Ext.b _)) (rds_lit _ 2 false (numS (q : Int)))))))
                    refine wpQuiet_nil ?_
                    intro _ hw'
                    obtain ⟨t, hw''⟩ := hw'
                    subst hw''
                    go_wp2_with (fail)
                    go_roundg kk
                    case measure => omega
                    case rel => exact ⟨k + 1, by go_num, ⟨by have := hk.out; have := HK8.out; omega⟩, ⟨below_step SQ.out (below_step SW9.out t.b)⟩⟩
              ·
                have t1 : decide ((k : Int) < 8) = false := decide_eq_false (by omega)
                clear hlt
                go_wp2_with (go_at_call 14; (with_reducible refine (colophonlaw10_awake.calls true _ HTq.out rfl).mono ?_); rintro e wz ⟨rfl, hb⟩; have SZ := Aside0.mk hb; clear hb)
                go_ret
                exact ⟨rfl, below_step SB7.out (below_step SQ.out SZ.out)⟩
end Go.Proofs.YtfpmompdgmklmaaDoor.P
/- A row of bytes that came in. -/
namespace Go.Proofs.YtfpmompdgmklmaaDoor.P
open Go.RowKit Go.Proofs.YtfpmompdgmklmaaDoorW.PrintWords Go.Proofs.YtfpmompdgmklmaaDoorW.PrintLast Go.Proofs.YtfpmompdgmklmaaDoorW.PrintMore Go.ChangeShapes Go.WideShapes
set_option linter.unusedVariables false
section
variable {H : Type} {enc : TypeId × Value → H} {W : World}
theorem cells5 : Tryd.prog.cellsOf 5 = 1 := by kernel_rfl
theorem bytes5 : Tryd.prog.bytesOf 5 = 1 := by kernel_rfl
theorem opens_bytes : Opens enc Tryd.prog W 39 (Kd.slice 5 (Kd.int .u8)) (fun l => l.length * 1 ≤ 140737488351232 ∧ ∀ x ∈ l, (Lit.int .u8 x).wf = true) := (opens_int Tryd.underlying5).slice Tryd.underlying39 cells5 bytes5
theorem byt_wf {l : List Int} (h : ∀ x ∈ l, (Lit.int .u8 x).wf = true) : ∀ x ∈ l, 0 ≤ x ∧ x ≤ 255 := fun x hx => by
  have := (Lit.wf_int_iff _ _).1 (h x hx)
  simp [IntKind.min, IntKind.max, IntKind.bits, IntKind.signed] at this
  omega
end
end Go.Proofs.YtfpmompdgmklmaaDoor.P
