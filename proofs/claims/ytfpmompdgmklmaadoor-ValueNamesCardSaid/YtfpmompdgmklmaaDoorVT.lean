/- slices.Clone at values and at names: a row of the call's own; a value's row of shallow copies among those that are copied. -/
import Derived.Test.YtfpmompdgmklmaaDoorV0
import Derived.Test.YtfpmompdgmklmaaDoorShelf
import Derived.WalkKit
namespace Go.Proofs.YtfpmompdgmklmaaDoor.P
open Go.RowKit Go.Proofs.YtfpmompdgmklmaaDoorW.PrintWords Go.Proofs.YtfpmompdgmklmaaDoorW.PrintLast Go.Proofs.YtfpmompdgmklmaaDoorW.PrintMore
set_option linter.unusedVariables false
set_option linter.unusedSimpArgs false
def kmix (w0 : World) : Kd (S25 × Bool) where
 sz := 5
 E := [9, 25]
 K := fun _ _ cs => cs.length = 5 ∧ ∀ u ∈ cs, u.oneCell' = true
 M := fun w base ok x cs => if x.2 = true then k25.M w base ok x.1 cs else k25.K w0 x.1 cs
 K_len := fun h => h.1
 K_one := fun h => h.2
 K_below := fun _ h => h
 K_of_M := by
  intro w base ok x cs h
  split at h
  · exact ⟨k25.K_len (k25.K_of_M h), k25.K_one (k25.K_of_M h)⟩
  · exact ⟨k25.K_len h, k25.K_one h⟩
 M_mono := by
  intro w base ok ok' x cs hok h
  split at h
  · rename_i hx; rw [if_pos hx]; exact k25.M_mono hok h
  · rename_i hx; rw [if_neg hx]; exact h
 M_bound := by
  intro w base ok x cs h
  split at h
  · rename_i hx; rw [if_pos hx]; exact k25.M_bound h
  · rename_i hx; rw [if_neg hx]; exact h
 M_move := by
  intro w w1 base ok x cs hm h
  split at h
  · rename_i hx; rw [if_pos hx]; exact k25.M_move hm h
  · rename_i hx; rw [if_neg hx]; exact h
 M_lower := by
  intro w base base' ok x cs hb h
  split at h
  · rename_i hx; rw [if_pos hx]; exact k25.M_lower hb h
  · rename_i hx; rw [if_neg hx]; exact h
theorem kmix_false {w0 w : World} {base : Nat} {ok : Nat → Prop} {x : S25} {cs : List Value} (h : k25.K w0 x cs) : (kmix w0).M w base ok (x, false) cs := by
 simpa [kmix] using h
theorem kmix_true {w0 w : World} {base : Nat} {ok : Nat → Prop} {x : S25} {cs : List Value} (h : k25.M w base ok x cs) : (kmix w0).M w base ok (x, true) cs := by
 simpa [kmix] using h
theorem kmix_false' {w0 w : World} {base : Nat} {ok : Nat → Prop} {x : S25} {cs : List Value} (h : (kmix w0).M w base ok (x, false) cs) : k25.K w0 x cs := by
 simpa [kmix] using h
theorem clone40 (A : Option Addr) (c : Nat) (l : List ByteArray) (w : World) (hr : Kd.C Kd.string w A l.length l) (hs : l.length * 16 ≤ 140737488355328) :
  Calls Tryd.prog 40 #[.slice A l.length c] w fun e w' => ∃ v, e = .returned v ∧ Kd.R Kd.string 9 w' w.heap.size (fun k => w.heap.size ≤ k) v l ∧ Below w.heap.size w w' := by
 rcases A with _ | ad
 ·
  have h0 : l.length = 0 := by
   rcases Nat.eq_zero_or_pos l.length with h0 | h0
   · exact h0
   ·
    obtain ⟨ad, h', _⟩ := hr.2.2 h0
    cases h'
  obtain rfl : l = [] := List.eq_nil_of_length_eq_zero h0
  refine (Tryd.slices_Clone_string_nil _ c w).mono ?_
  rintro e w' ⟨rfl, rfl⟩
  exact ⟨_, rfl, Kd.R_nil _ _ _ _ _, Below.refl _ _⟩
 ·
  rcases Nat.eq_zero_or_pos l.length with h0 | h0
  ·
   obtain rfl : l = [] := List.eq_nil_of_length_eq_zero h0
   refine (Tryd.slices_Clone_string_zero ad c w).mono ?_
   rintro e w' ⟨v, rfl, ho, _, hb⟩
   exact ⟨v, rfl, Kd.R_of_own (enc := Value.string) (h1 := fun _ => rfl) ho (fun k hk => own_base ho k hk), hb⟩
  ·
   obtain ⟨ad', he, hc⟩ := hr.2.2 h0
   cases he
   have hcell : ∀ j, j < l.length → w.cell? (ad.add j) = some (.string (l.getD j ByteArray.empty)) := fun j hj => by
    obtain ⟨cs, hl, hR, hcs⟩ := hc j _ (List.getElem?_eq_getElem hj)
    have hR' : cs = [.string l[j]] := hR
    subst hR'
    have := hcs 0 _ rfl
    rw [show j * Kd.string.sz + 0 = j from Nat.mul_one j] at this
    rw [this]
    simp [List.getD, hj]
   obtain ⟨b, o, rfl⟩ : ∃ b o, ad = ⟨b, o, none⟩ := by
    have h := hcell 0 h0
    obtain ⟨b, o, s⟩ := ad
    cases s with
    | none => exact ⟨b, o, rfl⟩
    | some s =>
     unfold Addr.add at h
     simp [World.cell?] at h
     split at h <;> simp_all
   have hcell' : ∀ j, j < l.length → w.cell? ⟨b, o + j, none⟩ = some (.string (l.getD j ByteArray.empty)) := fun j hj => by
    have := hcell j hj
    rwa [add_at] at this
   refine (Tryd.slices_Clone_string b o l.length c l w (Nat.le_refl _) hs hcell').mono ?_
   rintro e w' ⟨v, rfl, ho, _, hb⟩
   rw [List.take_length] at ho
   exact ⟨v, rfl, Kd.R_of_own (enc := Value.string) (h1 := fun _ => rfl) ho (fun k hk => own_base ho k hk), hb⟩
set_option maxHeartbeats 2000000 in
set_option maxRecDepth 100000 in
theorem clone41 (A : Option Addr) (c : Nat) (l : List S25) (w0 w : World) (hr : Kd.C k25 w0 A l.length l) (hbel : Below w0.heap.size w0 w) (hs : l.length * 80 ≤ 140737488355328) :
  Calls Tryd.prog 41 #[.slice A l.length c] w fun e w' => ∃ v, e = .returned v ∧ Kd.R (kmix w0) 25 w' w.heap.size (fun k => w.heap.size ≤ k) v (l.map fun x => (x, false)) ∧ Below w.heap.size w w' := by
 rcases A with _ | ad
 ·
  have h0 : l.length = 0 := by
   rcases Nat.eq_zero_or_pos l.length with h0 | h0
   · exact h0
   ·
    obtain ⟨ad, h', _⟩ := hr.2.2 h0
    cases h'
  obtain rfl : l = [] := List.eq_nil_of_length_eq_zero h0
  refine (Tryd.slices_CloneV_nil _ c w).mono ?_
  rintro e w' ⟨rfl, rfl⟩
  exact ⟨_, rfl, Kd.R_nil _ _ _ _ _, Below.refl _ _⟩
 ·
  obtain ⟨inner, hrep, hcell0⟩ : ∃ inner, Reps (k25.K w0) 5 l inner ∧ ∀ j u, inner[j]? = some u → w0.cell? (ad.add j) = some u := ReadsRow.inner_ hr
  have hcell : ∀ j u, inner[j]? = some u → w.cell? (ad.add j) = some u := fun j u hj => pw_cell_below hbel (hcell0 j u hj)
  clear hcell0
  have hone : ∀ u ∈ inner, u.oneCell' = true := by
   intro u hu
   obtain ⟨i, hi, rfl⟩ := List.mem_iff_getElem.mp hu
   have hlen := hrep.1
   have hq : i / 5 < l.length := by omega
   have hK := hrep.2 (i / 5) _ (List.getElem?_eq_getElem hq)
   refine k25.K_one hK _ ?_
   have e : inner[i] = ((inner.drop (i / 5 * 5)).take 5)[i % 5]'(by rw [List.length_take, List.length_drop]; omega) := by
    rw [List.getElem_take, List.getElem_drop]
    congr 1
    omega
   rw [e]
   exact List.getElem_mem _
  obtain ⟨i0, hi, hz0, hz1, hz2⟩ := info_parts info25
  have q22 : ∀ (w : World) (a : Option Addr) (n c n' c' : Nat), (binOp .eql 22 (.slice a n c) (.slice none n' c')).run Tryd.prog w = .ok (.bool a.isNone) w := fun w a n c n' c' => Lib.run_eql_slice_nil w _ _ a n c n' c' Tryd.underlying22
  have HC := q0_.mk hcell
  have HO := q0_.mk hone
  have HP := q0_.mk hrep
  have hn : l.length ≤ 9223372036854775807 := hr.2.1
  have hlen := hrep.1
  clear hcell hone hrep hr
  go_enter Tryd.func41, Tryd.ntmps41
  go_wp2_with (at_builtin; refine wpList_append_own _ rfl _ _ 22 rfl w.heap.size 25 i0 _ 5 80 Tryd.underlying22 hi hz0 hz1 hz2 rfl (by decide) _ _ _ rfl (World.ownsRow_made w #[] 0 (Nat.le_refl _) (Nat.zero_le _) (by simp)) ad l.length c inner rfl ?qc1 ?qc2 ?qc3 ?qc4 ?qc5 ?qc6 ?_)
  case qc1 => exact hlen
  case qc2 =>
   intro j u hj
   exact Lib.cell?_alloc_some _ (HC.out j u hj)
  case qc3 => exact HO.out
  case qc4 => rw [Nat.zero_add]; exact hn
  case qc5 => rw [Nat.zero_add]; exact hs
  case qc6 => simp
  intro v' w1 hown hgrow hnil
  go_wp2
  go_ret
  refine ⟨v', rfl, ?_, ?_⟩
  ·
   have hown' : w1.ownsRow w.heap.size 25 5 v' l.length inner := by simpa using hown
   refine ⟨fun k hk => own_base hown' k hk, inner, by rw [List.length_map]; exact hown', ?_⟩
   refine ⟨by rw [List.length_map]; exact HP.out.1, fun j p hj => ?_⟩
   rw [List.getElem?_map] at hj
   obtain ⟨x, hx, rfl⟩ := Option.map_eq_some_iff.mp hj
   have := HP.out.2 j x hx
   exact kmix_false this
  · exact ((Below.refl _ w).alloc (Nat.le_refl _) _).grown hgrow (by simp) (by intro k hk; simp [Value.ownBlock] at hk; omega)
end Go.Proofs.YtfpmompdgmklmaaDoor.P
/- A value made, no row of which is shared: each element's rows lie in blocks between bounds of its own. -/
namespace Go.Proofs.YtfpmompdgmklmaaDoor.P
open Go.RowKit Go.Proofs.YtfpmompdgmklmaaDoorW.PrintWords Go.Proofs.YtfpmompdgmklmaaDoorW.PrintLast Go.Proofs.YtfpmompdgmklmaaDoorW.PrintMore
set_option linter.unusedVariables false
set_option linter.unusedSimpArgs false
def rowAt (w : World) (v : Value) (n : Nat) : List Value := match v with
 | .slice (some a) _ _ => (match w.heap[a.block]? with | some (.cells cs _ _) => cs.toList.take n | _ => [])
 | _ => []
mutual
def SepV (w : World) : S25 → Nat → Nat → List Value → Prop
 | ⟨k, b, t, l, n⟩, lo, hi, cs => ∃ (v3 v4 : Value) (m : Nat), cs = [.int .i64 k, .bool b, .string t, v3, v4] ∧ lo ≤ m ∧ m ≤ hi ∧ (∀ q, v3.ownBlock = some q → lo ≤ q ∧ q < m) ∧ (∀ q, v4.ownBlock = some q → lo ≤ q ∧ q < m ∧ v3.ownBlock ≠ some q) ∧
   w.ownsRow 0 25 5 v3 l.length (rowAt w v3 (l.length * 5)) ∧ w.ownsRow 0 9 1 v4 n.length (n.map Value.string) ∧ SepL w l m hi (rowAt w v3 (l.length * 5))
def SepL (w : World) : List S25 → Nat → Nat → List Value → Prop
 | [], lo, hi, _ => lo ≤ hi
 | a :: r, lo, hi, inner => ∃ mid, lo ≤ mid ∧ mid ≤ hi ∧ SepV w a lo mid (inner.take 5) ∧ SepL w r mid hi (inner.drop 5)
end
theorem rowAt_own {w : World} {base n size e : Nat} {v : Value} {xs : List Value} (h : w.ownsRow base e size v n xs) : rowAt w v (n * size) = xs := by
 rcases h.2 with ⟨rfl, h0⟩ | ⟨g, cap, cur, rfl, hb, hh, h1, h2, h3, h4⟩
 ·
  have : xs = [] := by have := h.1; rw [h0] at this; simpa using this
  rw [this]; rfl
 · simp only [rowAt, hh]; exact h4
theorem rowAt_same {w w1 : World} {v : Value} {n : Nat} (h : ∀ k, v.ownBlock = some k → w1.heap[k]? = w.heap[k]?) : rowAt w1 v n = rowAt w v n := by
 unfold rowAt
 cases v with
 | slice a _ _ =>
  cases a with
  | none => rfl
  | some a => simp only [h a.block rfl]
 | _ => rfl
theorem SepL.le {w : World} : ∀ {l : List S25} {lo hi : Nat} {inner : List Value}, SepL w l lo hi inner → lo ≤ hi
 | [], _, _, _, h => by rw [SepL] at h; exact h
 | a :: r, _, _, _, h => by rw [SepL] at h; obtain ⟨mid, h1, h2, _, _⟩ := h; omega
theorem SepV.le {w : World} {x : S25} {lo hi : Nat} {cs : List Value} (h : SepV w x lo hi cs) : lo ≤ hi := by
 cases x; rw [SepV] at h; obtain ⟨_, _, m, _, h1, h2, _⟩ := h; omega
theorem SepV.keep {w w1 : World} (s : Nat) : ∀ {x : S25} {lo hi : Nat} {cs : List Value}, SizeOf.sizeOf x ≤ s → SepV w x lo hi cs → (∀ k, lo ≤ k → k < hi → w1.heap[k]? = w.heap[k]?) → SepV w1 x lo hi cs := by
 induction s with
 | zero => intro x lo hi cs hx; cases x; simp at hx
 | succ s ih =>
  intro x lo hi cs hx h hk
  obtain ⟨k, b, t, l, n⟩ := x
  have hL : ∀ (l' : List S25), (∀ y ∈ l', SizeOf.sizeOf y ≤ s) → ∀ (lo' hi' : Nat) (inner : List Value), (∀ k, lo' ≤ k → k < hi' → w1.heap[k]? = w.heap[k]?) → SepL w l' lo' hi' inner → SepL w1 l' lo' hi' inner := by
   intro l'
   induction l' with
   | nil => intro _ lo' hi' inner _ h; rw [SepL] at h ⊢; exact h
   | cons a r ihr =>
    intro hs lo' hi' inner hk' h
    rw [SepL] at h ⊢
    obtain ⟨mid, h1, h2, h3, h4⟩ := h
    have := h4.le
    exact ⟨mid, h1, h2, ih (hs a List.mem_cons_self) h3 (fun k a1 a2 => hk' k a1 (by omega)), ihr (fun y hy => hs y (List.mem_cons_of_mem _ hy)) _ _ _ (fun k a1 a2 => hk' k (by omega) a2) h4⟩
  rw [SepV] at h ⊢
  obtain ⟨v3, v4, m, h1, h2, h3, h4, h5, h6, h7, h8⟩ := h
  have hr : rowAt w1 v3 (l.length * 5) = rowAt w v3 (l.length * 5) := rowAt_same (fun q hq => by have := h4 q hq; exact hk q this.1 (by omega))
  refine ⟨v3, v4, m, h1, h2, h3, h4, h5, by rw [hr]; exact own_move h6 (fun q hq => by have := h4 q hq; exact hk q this.1 (by omega)), own_move h7 (fun q hq => by have := h5 q hq; exact hk q this.1 (by omega)), ?_⟩
  rw [hr]
  exact hL l (fun y hy => by have := List.sizeOf_lt_of_mem hy; simp only [S25.mk.sizeOf_spec] at hx; omega) m hi _ (fun k a1 a2 => hk k (by omega) a2) h8
theorem SepV.keep' {w w1 : World} {x : S25} {lo hi : Nat} {cs : List Value} (h : SepV w x lo hi cs) (hk : ∀ k, lo ≤ k → k < hi → w1.heap[k]? = w.heap[k]?) : SepV w1 x lo hi cs := SepV.keep _ (Nat.le_refl _) h hk
theorem SepL.keep {w w1 : World} : ∀ {l : List S25} {lo hi : Nat} {inner : List Value}, SepL w l lo hi inner → (∀ k, lo ≤ k → k < hi → w1.heap[k]? = w.heap[k]?) → SepL w1 l lo hi inner
 | [], _, _, _, h, _ => by rw [SepL] at h ⊢; exact h
 | a :: r, lo, hi, inner, h, hk => by
  rw [SepL] at h ⊢
  obtain ⟨mid, h1, h2, h3, h4⟩ := h
  have := h4.le
  exact ⟨mid, h1, h2, h3.keep' (fun k a1 a2 => hk k a1 (by omega)), SepL.keep h4 (fun k a1 a2 => hk k (by omega) a2)⟩
theorem SepV.lower {w : World} {x : S25} {c : List Value} {lo mid hi : Nat} (h : SepV w x mid hi c) (hl : lo ≤ mid) : SepV w x lo hi c := by
 cases x
 rw [SepV] at h ⊢
 obtain ⟨v3, v4, m, h1, h2, h3, h4, h5, h6⟩ := h
 exact ⟨v3, v4, m, h1, by omega, h3, fun q hq => by have := h4 q hq; omega, fun q hq => by have := h5 q hq; exact ⟨by omega, this.2⟩, h6⟩
theorem SepL.snoc {w : World} {x : S25} {c : List Value} : ∀ {l : List S25} {lo mid hi : Nat} {inner : List Value}, inner.length = l.length * 5 → c.length = 5 → SepL w l lo mid inner → SepV w x mid hi c → SepL w (l ++ [x]) lo hi (inner ++ c)
 | [], lo, mid, hi, inner, hl, hc, h, hx => by
  obtain rfl : inner = [] := by simpa using hl
  rw [SepL] at h
  rw [List.nil_append, List.nil_append, SepL]
  have := hx.le
  refine ⟨hi, by omega, Nat.le_refl _, ?_, by rw [SepL]; exact Nat.le_refl _⟩
  rw [List.take_of_length_le (by omega)]
  exact SepV.lower hx h
 | a :: r, lo, mid, hi, inner, hl, hc, h, hx => by
  rw [SepL] at h
  obtain ⟨m1, h1, h2, h3, h4⟩ := h
  rw [List.length_cons, Nat.add_mul] at hl
  have := hx.le
  rw [List.cons_append, SepL]
  refine ⟨m1, h1, by omega, ?_, ?_⟩
  · rw [List.take_append_of_le_length (by omega)]; exact h3
  ·
   rw [List.drop_append_of_le_length (by omega)]
   exact SepL.snoc (by rw [List.length_drop]; omega) hc h4 hx
theorem SepV.toM {w : World} (s : Nat) : ∀ {x : S25} {lo hi base : Nat} {ok : Nat → Prop} {cs : List Value}, SizeOf.sizeOf x ≤ s → SepV w x lo hi cs → base ≤ lo → (∀ k, lo ≤ k → k < hi → ok k) → k25.M w base ok x cs := by
 induction s with
 | zero => intro x lo hi base ok cs hx; cases x; simp at hx
 | succ s ih =>
  intro x lo hi base ok cs hx h hb hok
  obtain ⟨k, b, t, l, n⟩ := x
  have hL : ∀ (l' : List S25), (∀ y ∈ l', SizeOf.sizeOf y ≤ s) → ∀ (lo' hi' : Nat) (ok' : Nat → Prop) (inner : List Value), base ≤ lo' → inner.length = l'.length * 5 → (∀ k, lo' ≤ k → k < hi' → ok' k) → SepL w l' lo' hi' inner → Reps (k25.M w base ok') 5 l' inner := by
   intro l'
   induction l' with
   | nil =>
    intro _ lo' hi' ok' inner _ hl _ _
    obtain rfl : inner = [] := by simpa using hl
    exact Reps.none _ _
   | cons a r ihr =>
    intro hs lo' hi' ok' inner hbl hl hk' h
    rw [SepL] at h
    obtain ⟨mid, h1, h2, h3, h4⟩ := h
    have := h4.le
    rw [List.length_cons, Nat.add_mul] at hl
    have e := Reps.front (ih (hs a List.mem_cons_self) h3 hbl (fun k a1 a2 => hk' k a1 (by omega))) (by rw [List.length_take]; omega) (ihr (fun y hy => hs y (List.mem_cons_of_mem _ hy)) mid hi' ok' (inner.drop 5) (by omega) (by rw [List.length_drop]; omega) (fun k a1 a2 => hk' k (by omega) a2) h4) rfl
    rwa [List.take_append_drop] at e
  rw [SepV] at h
  obtain ⟨v3, v4, m, rfl, h2, h3, h4, h5, h6, h7, h8⟩ := h
  refine k25_mkM w base ok ⟨k, b, t, l, n⟩ ?_ ?_
  ·
   refine ⟨fun q hq => hok q (h4 q hq).1 (by have := h4 q hq; omega), rowAt w v3 (l.length * 5), ?_, ?_⟩
   ·
    refine ⟨h6.1, ?_⟩
    rcases h6.2 with hz | ⟨g, cap, cur, rfl, _, hr⟩
    · exact .inl hz
    · exact .inr ⟨g, cap, cur, rfl, by have := h4 g (by simp [Value.ownBlock]); omega, hr⟩
   · exact hL l (fun y hy => by have := List.sizeOf_lt_of_mem hy; simp only [S25.mk.sizeOf_spec] at hx; omega) m hi _ _ (by omega) h6.1 (fun q a1 a2 => ⟨hok q (by omega) a2, fun e => by have := h4 q e.symm; omega⟩) h8
  ·
   refine Kd.R_of_own (enc := Value.string) (h1 := fun _ => rfl) (e := 9) (base := base) ⟨by rw [← h7.1]; rfl, ?_⟩ (fun q hq => hok q (h5 q hq).1 (by have := h5 q hq; omega))
   rcases h7.2 with hz | ⟨g, cap, cur, rfl, _, hr⟩
   · exact .inl hz
   · exact .inr ⟨g, cap, cur, rfl, by have := h5 g (by simp [Value.ownBlock]); omega, hr⟩
theorem SepV.m {w : World} {x : S25} {lo hi base : Nat} {ok : Nat → Prop} {cs : List Value} (h : SepV w x lo hi cs) (hb : base ≤ lo) (hok : ∀ k, lo ≤ k → k < hi → ok k) : k25.M w base ok x cs := SepV.toM _ (Nat.le_refl _) h hb hok
theorem sep_R {w : World} {x : S25} {lo hi : Nat} {a b c v3 v4 : Value} (h : SepV w x lo hi [a, b, c, v3, v4]) : Kd.R k25 25 w lo (fun k => some k ≠ v4.ownBlock) v3 x.f3 ∧ Kd.R Kd.string 9 w lo (fun _ => True) v4 x.f4 := by
 have hM := h.m (base := lo) (ok := fun k => lo ≤ k ∧ k < hi) (Nat.le_refl _) (fun k a b => ⟨a, b⟩)
 obtain ⟨u3, u4, e, g3, g4⟩ := k25_openM hM
 obtain rfl : v3 = u3 := by injection e with _ e; injection e with _ e; injection e with _ e; injection e with e _
 obtain rfl : v4 = u4 := by injection e with _ e; injection e with _ e; injection e with _ e; injection e with _ e; injection e with e _
 refine ⟨?_, Kd.qd_ g4 (fun _ _ => trivial)⟩
 obtain ⟨k, i, t, l, n⟩ := x
 rw [SepV] at h
 obtain ⟨w3, w4, m, he, h2, h3, h4, h5, h6, h7, h8⟩ := h
 obtain rfl : v3 = w3 := by injection he with _ e; injection e with _ e; injection e with _ e; injection e with e _
 obtain rfl : v4 = w4 := by injection he with _ e; injection e with _ e; injection e with _ e; injection e with _ e; injection e with e _
 have hx : SepV w ⟨k, i, t, l, []⟩ lo hi [.int .i64 k, .bool i, .string t, v3, .slice none 0 0] := by
  rw [SepV]
  exact ⟨v3, .slice none 0 0, m, rfl, h2, h3, h4, fun q hq => by simp [Value.ownBlock] at hq, h6, ⟨by simp, .inl ⟨rfl, rfl⟩⟩, h8⟩
 have hM' := hx.m (base := lo) (ok := fun k => lo ≤ k ∧ k < hi ∧ some k ≠ v4.ownBlock) (Nat.le_refl _)
 -- the blocks of the list's elements lie from m on, the list's own is another
 have hL : ∀ (q : Nat), True := fun _ => trivial
 clear hM' hx
 refine ⟨fun q hq e => ?_, rowAt w v3 (l.length * 5), ?_, ?_⟩
 · exact (h5 q e.symm).2.2 hq
 ·
  refine ⟨h6.1, ?_⟩
  rcases h6.2 with hz | ⟨g, cap, cur, rfl, _, hr⟩
  · exact .inl hz
  · exact .inr ⟨g, cap, cur, rfl, (h4 g (by simp [Value.ownBlock])).1, hr⟩
 ·
  have reps : ∀ (l' : List S25) (lo' hi' : Nat) (ok' : Nat → Prop) (inner : List Value), lo ≤ lo' → inner.length = l'.length * 5 → (∀ k, lo' ≤ k → k < hi' → ok' k) → SepL w l' lo' hi' inner → Reps (k25.M w lo ok') 5 l' inner := by
   intro l'
   induction l' with
   | nil =>
    intro lo' hi' ok' inner _ hl _ _
    obtain rfl : inner = [] := by simpa using hl
    exact Reps.none _ _
   | cons a r ihr =>
    intro lo' hi' ok' inner hbl hl hk' h
    rw [SepL] at h
    obtain ⟨mid, h1, h2, h3, h4⟩ := h
    have := h4.le
    rw [List.length_cons, Nat.add_mul] at hl
    have e := Reps.front (h3.m hbl (fun k a1 a2 => hk' k a1 (by omega))) (by rw [List.length_take]; omega) (ihr mid hi' ok' (inner.drop 5) (by omega) (by rw [List.length_drop]; omega) (fun k a1 a2 => hk' k (by omega) a2) h4) rfl
    rwa [List.take_append_drop] at e
  exact reps l m hi _ _ h2 h6.1 (fun q a1 a2 => ⟨fun e => by have := h5 q e.symm; omega, fun e => by have := h4 q e.symm; omega⟩) h8
theorem setCells_size (w : World) (g : Nat) : ∀ (o : Nat) (vs : List Value), (w.setCells g o vs).heap.size = w.heap.size := by
 intro o vs
 induction vs generalizing o w with
 | nil => rfl
 | cons v r ih => rw [World.setCells, ih]; simp [World.setCell]
theorem take_set5 (cs : List Value) (o : Nat) (a b c d e : Value) (h : o + 5 ≤ cs.length) : ((((((cs.set o a).set (o + 1) b).set (o + 2) c).set (o + 3) d).set (o + 4) e).take (o + 5)) = cs.take o ++ [a, b, c, d, e] := by
 apply List.ext_getElem?
 intro i
 have hl : (cs.take o).length = o := by rw [List.length_take]; omega
 by_cases h0 : i < o
 ·
  rw [List.getElem?_append_left (by omega), List.getElem?_take_of_lt (by omega), List.getElem?_take_of_lt h0]
  rw [List.getElem?_set_ne (by omega), List.getElem?_set_ne (by omega), List.getElem?_set_ne (by omega), List.getElem?_set_ne (by omega), List.getElem?_set_ne (by omega)]
 ·
  rw [List.getElem?_append_right (by omega), hl]
  obtain rfl | rfl | rfl | rfl | rfl | h5 : i = o ∨ i = o + 1 ∨ i = o + 2 ∨ i = o + 3 ∨ i = o + 4 ∨ o + 5 ≤ i := by omega
  · rw [List.getElem?_take_of_lt (by omega), List.getElem?_set_ne (by omega), List.getElem?_set_ne (by omega), List.getElem?_set_ne (by omega), List.getElem?_set_ne (by omega), List.getElem?_set_self (by omega)]; simp
  · rw [List.getElem?_take_of_lt (by omega), List.getElem?_set_ne (by omega), List.getElem?_set_ne (by omega), List.getElem?_set_ne (by omega), List.getElem?_set_self (by simp; omega)]; simp
  · rw [List.getElem?_take_of_lt (by omega), List.getElem?_set_ne (by omega), List.getElem?_set_ne (by omega), List.getElem?_set_self (by simp; omega)]; simp
  · rw [List.getElem?_take_of_lt (by omega), List.getElem?_set_ne (by omega), List.getElem?_set_self (by simp; omega)]; simp
  · rw [List.getElem?_take_of_lt (by omega), List.getElem?_set_self (by simp; omega)]; simp
  · rw [List.getElem?_take_eq_none (by omega), List.getElem?_eq_none (by simp; omega)]
theorem rowAt_put5 {w : World} {g n cap j : Nat} {cur : Array Value} {t : TypeId} (h : w.heap[g]? = some (.cells cur t (0, 0))) (hl : (j + 1) * 5 ≤ cur.size) (a b c d e : Value) :
  rowAt (w.setCells g (j * 5) [a, b, c, d, e]) (.slice (some ⟨g, 0, none⟩) n cap) ((j + 1) * 5) = rowAt w (.slice (some ⟨g, 0, none⟩) n cap) (j * 5) ++ [a, b, c, d, e] := by
 have h1 : (w.setCells g (j * 5) [a, b, c, d, e]).heap[g]? = some (.cells (((((cur.setIfInBounds (j * 5) a).setIfInBounds (j * 5 + 1) b).setIfInBounds (j * 5 + 1 + 1) c).setIfInBounds (j * 5 + 1 + 1 + 1) d).setIfInBounds (j * 5 + 1 + 1 + 1 + 1) e) t (0, 0)) :=
  qv_ (qv_ (qv_ (qv_ (qv_ h _ _ rfl) _ _ rfl) _ _ rfl) _ _ rfl) _ _ rfl
 simp only [rowAt, h, h1]
 have := take_set5 cur.toList (j * 5) a b c d e (by rw [Array.length_toList]; omega)
 rw [show (j + 1) * 5 = j * 5 + 5 by omega]
 simpa using this
theorem rowAt_len {w : World} {base n : Nat} {v : Value} {xs : List Value} (h : w.ownsRow base 25 5 v n xs) (j : Nat) (hj : j ≤ n) : (rowAt w v (j * 5)).length = j * 5 := by
 rcases h.2 with ⟨rfl, h0⟩ | ⟨g, cap, cur, rfl, hb, hh, h1, h2, h3, h4⟩
 ·
  obtain rfl : j = 0 := by omega
  rfl
 ·
  simp only [rowAt, hh, List.length_take, Array.length_toList, h3]
  have : j * 5 ≤ cap * 5 := Nat.mul_le_mul_right _ (by omega)
  omega
end Go.Proofs.YtfpmompdgmklmaaDoor.P
