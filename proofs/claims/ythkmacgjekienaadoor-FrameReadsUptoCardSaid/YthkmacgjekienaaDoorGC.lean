/- Bodies with their headers, one behind the other: what they are taken as. -/
import Derived.Test.YthkmacgjekienaaDoorG1
namespace Go.Proofs.YthkmacgjekienaaDoor.P
attribute [-simp] List.length_drop List.length_take ByteArray.size_append
open Go.RowKit Go.Shelf Go.Proofs.YthkmacgjekienaaDoor.Pure Go.Proofs.YthkmacgjekienaaDoorW.PrintWords Go.Proofs.YthkmacgjekienaaDoorW.PrintLast Go.Proofs.YthkmacgjekienaaDoorW.PrintMore
set_option linter.unusedVariables false
set_option linter.unusedSimpArgs false
theorem Byt.app {a b : List Int} (ha : Byt a) (hb : Byt b) : Byt (a ++ b) := Byt.append ha hb
theorem byt_hdOf (u : Nat) : Byt (hdOf u) := byt_hd [clOf u] (ln_cl u)
theorem byt_wf {l : List Int} (h : ∀ x ∈ l, (Lit.int .u8 x).wf = true) : Byt l := fun x hx => by
  have := (Lit.wf_int_iff _ _).1 (h x hx)
  simp [IntKind.min, IntKind.max, IntKind.bits, IntKind.signed] at this
  omega
theorem hp_hd (u : Nat) (hu : u ≤ 65536) (t : List Int) (hb : Byt t) (hl : t.length ≤ 140737488355328) : hp (hdOf u ++ t) = ((u : Int), ((hdOf u).length : Int), 0) := by
  have hlen := hd_len u hu
  have ht : (hdOf u ++ t).take (hdOf u).length = hdOf u := by simp
  rcases settled (hdOf u ++ t) (Byt.app (byt_hdOf u) hb) (by rw [List.length_append]; omega) (hdOf u).length (by rw [List.length_append]; omega) with ⟨_, h⟩ | ⟨r, h1, h2, _⟩
  · rw [ht] at h
    have := ev_one h (parse_hd u hu)
    simp at this
  · rw [ht] at h1
    rw [ev_one h1 (parse_hd u hu)] at h2
    exact hp_is h2
theorem bod_hd (x : List Int) (hx : x.length ≤ 65536) (t : List Int) (hb : Byt (x ++ t)) (hl : (x ++ t).length ≤ 140737488355328) : bodT (hdOf x.length ++ (x ++ t)) = (x :: (bodT t).1, (bodT t).2) := by
  have hlen := hd_len x.length hx
  have h := bod_one (l := hdOf x.length ++ (x ++ t)) (n := x.length) (s := (hdOf x.length).length) (bs := (bodT t).1) (r := (bodT t).2) (hp_hd x.length hx _ hb hl) (by omega) (by simp) (by
    rw [← List.append_assoc, List.drop_left' (by simp)])
  rw [h]
  congr 2
  rw [← List.append_assoc, List.take_left' (by simp)]
  simp
theorem bod_x (t : List Int) (hb : Byt t) (hl : t.length ≤ 140737488355328) : bodT ([88, 13, 10, 13, 10] ++ t) = ([], [88, 13, 10, 13, 10] ++ t, 60) := by
  refine bod_no ?_ (by decide)
  have hx : Ev (fun k => head_Parse.f k [88, 13, 10, 13, 10]) (0, 0, 60) := Ev.of (fun k => head_Parse.mono _ k) (show head_Parse.f 60 [88, 13, 10, 13, 10] = some (0, 0, 60) by decide +kernel)
  have ht : ([88, 13, 10, 13, 10] ++ t).take 5 = [88, 13, 10, 13, 10] := by simp
  rcases settled ([88, 13, 10, 13, 10] ++ t) (Byt.app (byt_lit (by decide +kernel)) hb) (by simp; omega) 5 (by simp) with ⟨_, h⟩ | ⟨r, h1, h2, _⟩
  · rw [ht] at h
    have := ev_one h hx
    simp at this
  · rw [ht] at h1
    rw [ev_one h1 hx] at h2
    exact hp_is h2
/-- bodies, of m bytes each at most, with their headers, one behind the other -/
def frs (m : Nat) (l : List (List Int)) : List Int := l.flatMap fun x => hdOf (x.take m).length ++ x.take m
theorem frs_len (m : Nat) (hm : m ≤ 65536) : ∀ l : List (List Int), (frs m l).length ≤ l.length * (m + 40)
  | [] => by simp [frs]
  | x :: l => by
    have ih := frs_len m hm l
    have h1 : (x.take m).length ≤ m := by rw [List.length_take]; omega
    have h2 := hd_len (x.take m).length (by omega)
    have e : frs m (x :: l) = (hdOf (x.take m).length ++ x.take m) ++ frs m l := by simp [frs]
    rw [e, List.length_append, List.length_append, List.length_cons, Nat.add_mul]
    omega
theorem frs_byt (m : Nat) (l : List (List Int)) (h : ∀ x ∈ l, Byt x) : Byt (frs m l) := by
  intro a ha
  obtain ⟨x, hx, ha⟩ := List.mem_flatMap.1 ha
  rcases List.mem_append.1 ha with ha | ha
  · exact byt_hdOf _ a ha
  · exact h x hx a (List.mem_of_mem_take ha)
theorem frs_snoc (m : Nat) (l : List (List Int)) (x : List Int) : frs m (l ++ [x]) = frs m l ++ (hdOf (x.take m).length ++ x.take m) := by simp [frs]
theorem bod_frs (m : Nat) (hm : m ≤ 65536) (t : List Int) (hb : Byt t) : ∀ l : List (List Int), (∀ x ∈ l, Byt x) → (frs m l).length + t.length ≤ 140737488355328 → bodT (frs m l ++ t) = (l.map (List.take m) ++ (bodT t).1, (bodT t).2)
  | [], _, _ => by simp [frs]
  | x :: l, h, hl => by
    have e : frs m (x :: l) ++ t = hdOf (x.take m).length ++ (x.take m ++ (frs m l ++ t)) := by simp [frs]
    have e2 : (frs m (x :: l)).length = (hdOf (x.take m).length).length + (x.take m).length + (frs m l).length := by simp [frs, Nat.add_assoc]
    have h1 : (x.take m).length ≤ m := by rw [List.length_take]; omega
    have ih := bod_frs m hm t hb l (fun y hy => h y (List.mem_cons_of_mem _ hy)) (by omega)
    rw [e, bod_hd _ (by omega) _ (Byt.app ((h x (List.mem_cons_self)).take m) (Byt.app (frs_byt m l fun y hy => h y (List.mem_cons_of_mem _ hy)) hb)) (by rw [List.length_append, List.length_append]; omega), ih]
    simp
end Go.Proofs.YthkmacgjekienaaDoor.P
/- How great what is left can be. -/
namespace Go.Proofs.YthkmacgjekienaaDoor.P
attribute [-simp] List.length_drop List.length_take ByteArray.size_append
open Go.RowKit Go.Shelf Go.Proofs.YthkmacgjekienaaDoor.Pure Go.Proofs.YthkmacgjekienaaDoorW.PrintWords Go.Proofs.YthkmacgjekienaaDoorW.PrintLast Go.Proofs.YthkmacgjekienaaDoorW.PrintMore
set_option linter.unusedVariables false
set_option linter.unusedSimpArgs false
theorem parsed_top (v : List Int) (h : (parsed v 65536).2 = 0) : (parsed v 65536).1 ≤ 65536 := by
  unfold parsed at h ⊢
  rw [if_neg (by decide)] at h ⊢
  by_cases h2 : v.length = 0 ∨ runLen v ≠ v.length
  · rw [if_pos h2] at h ⊢; simp at h
  · rw [if_neg h2] at h ⊢
    unfold told at h ⊢
    by_cases h3 : val 0 v ≤ 65536
    · rw [if_pos h3] at h ⊢; exact h3
    · rw [if_neg h3] at h ⊢; simp at h
theorem hloop_top (k : Nat) : ∀ (f : Nat) (rest : List Int) (body : Int) (r : Int × Int), Byt rest → rest.length ≤ 140737488353792 → body ≤ 65536 → hloop k f rest body = some r → r.2 = 0 → r.1 ≤ 65536
  | 0, _, _, _, _, _, _, h, _ => by simp [hloop] at h
  | f + 1, rest, body, r, hby, hl, hb, h, h0 => by
    obtain ⟨c1, c2, c3, c4⟩ := cutF_facts rest
    have hb2 : Byt (cutF rest).2 := fun x hx => hby x (c4 x hx)
    have hb1 : Byt (cutF rest).1 := fun x hx => hby x (c3 x hx)
    have hl2 : (cutF rest).2.length ≤ 140737488353792 := by omega
    rw [hloop] at h
    split at h
    · split at h
      · obtain rfl := Option.some.inj h; simp at h0
      · rename_i n v hn
        split at h
        · obtain ⟨t, h1, h2⟩ := Option.bind_eq_some_iff.mp h
          have hv : v.length ≤ (cutF rest).1.length := by
            rw [line_eq _ hb1] at hn
            exact lineD_len hn
          have ht : t = parsed v 65536 := ev_one (Ev.of (fun k => digits_Parse.mono v 65536 k) h1) (parse_ev v (by omega) 65536 (by decide))
          split at h2
          · obtain rfl := Option.some.inj h2; simp at h0
          · split at h2
            · rename_i h00
              have h3 : t.1 ≤ 65536 := by rw [ht] at h00 ⊢; exact parsed_top v h00
              split at h2
              · split at h2
                · exact hloop_top k f _ _ _ hb2 hl2 h3 h2 h0
                · obtain rfl := Option.some.inj h2; simp at h0
              · exact hloop_top k f _ _ _ hb2 hl2 h3 h2 h0
            · obtain rfl := Option.some.inj h2; simp at h0
        · exact hloop_top k f _ _ _ hb2 hl2 hb h h0
    · obtain rfl := Option.some.inj h; exact hb
theorem hp_top {l : List Int} (hb : Byt l) (hl : l.length ≤ 140737488353792) (h : (hp l).2.2 = 0) : (hp l).1 ≤ 65536 := by
  rcases parse_form l hb (by omega) with ⟨_, h1⟩ | ⟨E, r, h1, h2, h3, h4, h5, h6, h7⟩
  · rw [hp_is h1] at h ⊢
    simp
  · rw [hp_is h7] at h ⊢
    obtain ⟨k, hk⟩ := (h6 E (Nat.le_refl _)).rounds
    have h8 := hloop_top k E _ _ r (hb.take _) (by rw [List.length_take]; omega) (by decide) hk
    unfold outOf at h ⊢
    split
    · rename_i h0
      rw [if_pos h0] at h
      split
      · simp
      · exact h8 h0
    · simp
/-- what is left of bytes that are no whole frame, and not wrong, is less than one frame can be -/
theorem left_small (l : List Int) : Byt l → l.length ≤ 140737488353792 → (bodT l).2.2 = 3 → (bodT l).2.1.length < 66048 := by
  refine bod_ind (p := fun l => Byt l → l.length ≤ 140737488353792 → (bodT l).2.2 = 3 → (bodT l).2.1.length < 66048) (fun l ho ih hb hl h => ?_) (fun l ho hb hl h => ?_) l
  · rw [bodT_ok ho] at h ⊢
    exact ih hb.rest1 (by have := rest1_lt ho; omega) h
  · rw [bodT_no ho] at h ⊢
    simp only at h ⊢
    rcases hp_form hb hl with h' | h' | h' | ⟨n, s, h', k1, k2, k3⟩
    · omega
    · unfold err1 at h; rw [h'] at h; simp at h
    · unfold err1 at h; rw [h'] at h; simp at h
    · have h65 := hp_top hb hl (by rw [h'])
      rw [h'] at h65
      simp at h65
      rcases Nat.lt_or_ge l.length (s + n) with g | g
      · omega
      · refine absurd ⟨by rw [h'], ?_, ?_⟩ ho
        · unfold sz bn; rw [h']; simpa using g
        · unfold sz; rw [h']; simpa using k1
theorem bod_err (l : List Int) : Byt l → l.length ≤ 140737488353792 → (bodT l).2.2 = 3 ∨ (bodT l).2.2 = 5 ∨ (bodT l).2.2 = 60 := by
  refine bod_ind (p := fun l => Byt l → l.length ≤ 140737488353792 → (bodT l).2.2 = 3 ∨ (bodT l).2.2 = 5 ∨ (bodT l).2.2 = 60) (fun l ho ih hb hl => ?_) (fun l ho hb hl => ?_) l
  · rw [bodT_ok ho]
    exact ih hb.rest1 (by have := rest1_lt ho; omega)
  · rw [bodT_no ho]
    rcases no1_form hb hl ho with ⟨_, h2, h3⟩ | ⟨_, _, _, h2, _⟩
    · rw [h2]; exact h3
    · exact .inl h2
theorem bod_count (l : List Int) : (bodT l).1.length ≤ l.length := by
  refine bod_ind (p := fun l => (bodT l).1.length ≤ l.length) (fun l ho ih => ?_) (fun l ho => ?_) l
  · rw [bodT_ok ho]
    have := rest1_lt ho
    simp
    omega
  · rw [bodT_no ho]; simp
theorem bod_left (l : List Int) : Byt l → Byt (bodT l).2.1 ∧ (bodT l).2.1.length ≤ l.length := by
  refine bod_ind (p := fun l => Byt l → Byt (bodT l).2.1 ∧ (bodT l).2.1.length ≤ l.length) (fun l ho ih hb => ?_) (fun l ho hb => ?_) l
  · rw [bodT_ok ho]
    have := rest1_lt ho
    exact ⟨(ih hb.rest1).1, by have := (ih hb.rest1).2; simp; omega⟩
  · rw [bodT_no ho]; exact ⟨hb, Nat.le_refl _⟩
end Go.Proofs.YthkmacgjekienaaDoor.P
/- FrameBroken. -/
namespace Go.Proofs.YthkmacgjekienaaDoor.P
attribute [-simp] List.length_drop List.length_take ByteArray.size_append
open Go.RowKit Go.Shelf Go.Proofs.YthkmacgjekienaaDoor.Pure Go.Proofs.YthkmacgjekienaaDoorW.PrintWords Go.Proofs.YthkmacgjekienaaDoorW.PrintLast Go.Proofs.YthkmacgjekienaaDoorW.PrintMore
attribute [local go_sem] max2_int min2_int max_two min_two
set_option linter.unusedVariables false
set_option linter.unusedSimpArgs false
/-- a new reader, and a row of bytes of one's own -/
structure Bk (w wr : World) (vb : Value) (X : List Int) : Prop where
  blk : wr.heap[w.heap.size]? = some (.cells #[.slice none 0 0, .bool true, .bool false] 57 (0, 0))
  row : Kd.R (Kd.int .u8) 5 wr w.heap.size (fun _ => True) vb X
  be : Below w.heap.size w wr
theorem Bk.new (w : World) : Bk w (w.alloc (.cells #[.slice none 0 0, .bool true, .bool false] 57)) (.slice none 0 0) [] := ⟨heap_alloc_new w _, Kd.R_nil _ _ _ _ _, below_alloc (Below.refl _ _) _⟩
theorem Bk.below {w wr w1 : World} {vb : Value} {X : List Int} (h : Bk w wr vb X) (hb : Below wr.heap.size wr w1) : Bk w w1 vb X :=
  ⟨(hb.block _ (blk_lt h.blk)).trans h.blk, Kd.R_below h.row hb, h.be.trans (hb.mono h.be.size)⟩
theorem Bk.step {w wr w1 : World} {vb v1 : Value} {X X1 : List Int} (h : Bk w wr vb X) (hr : Kd.R (Kd.int .u8) 5 w1 w.heap.size (fun _ => True) v1 X1) (hb : Below w.heap.size w w1) (hg : wr.grownBy w1 vb.ownBlock) : Bk w w1 v1 X1 :=
  ⟨blk_grown h.blk hg (Kd.R_ne h.row h.blk (by decide)), hr, hb⟩
theorem Bk.rd {w wr : World} {vb : Value} {X : List Int} (h : Bk w wr vb X) : Rd w.heap.size wr w.heap.size (.slice none 0 0) [] false := ⟨h.blk, Kd.R_nil _ _ _ _ _, Nat.le_refl _⟩
end Go.Proofs.YthkmacgjekienaaDoor.P
/- FrameBound. -/
namespace Go.Proofs.YthkmacgjekienaaDoor.P
attribute [-simp] List.length_drop List.length_take ByteArray.size_append
open Go.RowKit Go.Shelf Go.Proofs.YthkmacgjekienaaDoor.Pure Go.Proofs.YthkmacgjekienaaDoorW.PrintWords Go.Proofs.YthkmacgjekienaaDoorW.PrintLast Go.Proofs.YthkmacgjekienaaDoorW.PrintMore
set_option linter.unusedVariables false
set_option linter.unusedSimpArgs false
/-- a reader that goes on, and keeps less than one frame can be -/
def RdS (w0 w : World) (g : Nat) : Prop := ∃ B, RdE w0 w g B ∧ Byt B ∧ B.length < 66048
theorem RdS.left {w0 w : World} {g : Nat} (h : RdS w0 w g) : ∃ nb : Nat, nb < 66048 ∧ Calls Tryd.prog 17 #[.pointer (some ⟨g, 0, none⟩)] w fun e w' => e = .returned (.int .i64 nb) ∧ w = w' := by
  obtain ⟨B, h, _, hl⟩ := h
  exact ⟨B.length, hl, leftE h _ rfl⟩
theorem RdS.closed {w0 w : World} {g : Nat} (h : RdS w0 w g) : Calls Tryd.prog 19 #[.pointer (some ⟨g, 0, none⟩)] w fun e w' => e = .returned (.bool false) ∧ w = w' := by
  obtain ⟨B, h, _, hl⟩ := h
  exact closedE h
end Go.Proofs.YthkmacgjekienaaDoor.P
