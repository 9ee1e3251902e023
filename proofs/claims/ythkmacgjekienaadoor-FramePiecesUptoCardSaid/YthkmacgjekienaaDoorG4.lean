/- How great what is left can be. -/
import Derived.Test.YthkmacgjekienaaDoorG2
namespace Go.Proofs.YthkmacgjekienaaDoor.P
attribute [-simp] List.length_drop List.length_take ByteArray.size_append
open Go.RowKit Go.Shelf Go.Proofs.YthkmacgjekienaaDoor.Pure Go.Proofs.YthkmacgjekienaaDoorW.PrintWords Go.Proofs.YthkmacgjekienaaDoorW.PrintLast Go.Proofs.YthkmacgjekienaaDoorW.PrintMore
set_option linter.unusedVariables false
set_option linter.unusedSimpArgs false
theorem parsed_top (v : List Int) (h : (parsed v 65536).2 = 0) : (parsed v 65536).1 ≤ 65536 := by
  unfold parsed at h ⊢
  rw [if_neg (by decide)] at h ⊢
  by_cases h2 : v.length = 0 ∨ runLen v ≠ v.length
  · rw [if_pos h2] at h ⊢; simp at h
  · rw [if_neg h2] at h ⊢
    unfold told at h ⊢
    by_cases h3 : val 0 v ≤ 65536
    · rw [if_pos h3] at h ⊢; exact h3
    · rw [if_neg h3] at h ⊢; simp at h
theorem hloop_top (k : Nat) : ∀ (f : Nat) (rest : List Int) (body : Int) (r : Int × Int), Byt rest → rest.length ≤ 140737488353792 → body ≤ 65536 → hloop k f rest body = some r → r.2 = 0 → r.1 ≤ 65536
  | 0, _, _, _, _, _, _, h, _ => by simp [hloop] at h
  | f + 1, rest, body, r, hby, hl, hb, h, h0 => by
    obtain ⟨c1, c2, c3, c4⟩ := cutF_facts rest
    have hb2 : Byt (cutF rest).2 := fun x hx => hby x (c4 x hx)
    have hb1 : Byt (cutF rest).1 := fun x hx => hby x (c3 x hx)
    have hl2 : (cutF rest).2.length ≤ 140737488353792 := by omega
    rw [hloop] at h
    split at h
    · split at h
      · obtain rfl := Option.some.inj h; simp at h0
      · rename_i n v hn
        split at h
        · obtain ⟨t, h1, h2⟩ := Option.bind_eq_some_iff.mp h
          have hv : v.length ≤ (cutF rest).1.length := by
            rw [line_eq _ hb1] at hn
            exact lineD_len hn
          have ht : t = parsed v 65536 := ev_one (Ev.of (fun k => digits_Parse.mono v 65536 k) h1) (parse_ev v (by omega) 65536 (by decide))
          split at h2
          · obtain rfl := Option.some.inj h2; simp at h0
          · split at h2
            · rename_i h00
              have h3 : t.1 ≤ 65536 := by rw [ht] at h00 ⊢; exact parsed_top v h00
              split at h2
              · split at h2
                · exact hloop_top k f _ _ _ hb2 hl2 h3 h2 h0
                · obtain rfl := Option.some.inj h2; simp at h0
              · exact hloop_top k f _ _ _ hb2 hl2 h3 h2 h0
            · obtain rfl := Option.some.inj h2; simp at h0
        · exact hloop_top k f _ _ _ hb2 hl2 hb h h0
    · obtain rfl := Option.some.inj h; exact hb
theorem hp_top {l : List Int} (hb : Byt l) (hl : l.length ≤ 140737488353792) (h : (hp l).2.2 = 0) : (hp l).1 ≤ 65536 := by
  rcases parse_form l hb (by omega) with ⟨_, h1⟩ | ⟨E, r, h1, h2, h3, h4, h5, h6, h7⟩
  · rw [hp_is h1] at h ⊢
    simp
  · rw [hp_is h7] at h ⊢
    obtain ⟨k, hk⟩ := (h6 E (Nat.le_refl _)).rounds
    have h8 := hloop_top k E _ _ r (hb.take _) (by rw [List.length_take]; omega) (by decide) hk
    unfold outOf at h ⊢
    split
    · rename_i h0
      rw [if_pos h0] at h
      split
      · simp
      · exact h8 h0
    · simp
/-- what is left of bytes that are no whole frame, and not wrong, is less than one frame can be -/
theorem left_small (l : List Int) : Byt l → l.length ≤ 140737488353792 → (bodT l).2.2 = 3 → (bodT l).2.1.length < 66048 := by
  refine bod_ind (p := fun l => Byt l → l.length ≤ 140737488353792 → (bodT l).2.2 = 3 → (bodT l).2.1.length < 66048) (fun l ho ih hb hl h => ?_) (fun l ho hb hl h => ?_) l
  · rw [bodT_ok ho] at h ⊢
    exact ih hb.rest1 (by have := rest1_lt ho; omega) h
  · rw [bodT_no ho] at h ⊢
    simp only at h ⊢
    rcases hp_form hb hl with h' | h' | h' | ⟨n, s, h', k1, k2, k3⟩
    · omega
    · unfold err1 at h; rw [h'] at h; simp at h
    · unfold err1 at h; rw [h'] at h; simp at h
    · have h65 := hp_top hb hl (by rw [h'])
      rw [h'] at h65
      simp at h65
      rcases Nat.lt_or_ge l.length (s + n) with g | g
      · omega
      · refine absurd ⟨by rw [h'], ?_, ?_⟩ ho
        · unfold sz bn; rw [h']; simpa using g
        · unfold sz; rw [h']; simpa using k1
theorem bod_err (l : List Int) : Byt l → l.length ≤ 140737488353792 → (bodT l).2.2 = 3 ∨ (bodT l).2.2 = 5 ∨ (bodT l).2.2 = 60 := by
  refine bod_ind (p := fun l => Byt l → l.length ≤ 140737488353792 → (bodT l).2.2 = 3 ∨ (bodT l).2.2 = 5 ∨ (bodT l).2.2 = 60) (fun l ho ih hb hl => ?_) (fun l ho hb hl => ?_) l
  · rw [bodT_ok ho]
    exact ih hb.rest1 (by have := rest1_lt ho; omega)
  · rw [bodT_no ho]
    rcases no1_form hb hl ho with ⟨_, h2, h3⟩ | ⟨_, _, _, h2, _⟩
    · rw [h2]; exact h3
    · exact .inl h2
theorem bod_count (l : List Int) : (bodT l).1.length ≤ l.length := by
  refine bod_ind (p := fun l => (bodT l).1.length ≤ l.length) (fun l ho ih => ?_) (fun l ho => ?_) l
  · rw [bodT_ok ho]
    have := rest1_lt ho
    simp
    omega
  · rw [bodT_no ho]; simp
theorem bod_left (l : List Int) : Byt l → Byt (bodT l).2.1 ∧ (bodT l).2.1.length ≤ l.length := by
  refine bod_ind (p := fun l => Byt l → Byt (bodT l).2.1 ∧ (bodT l).2.1.length ≤ l.length) (fun l ho ih hb => ?_) (fun l ho hb => ?_) l
  · rw [bodT_ok ho]
    have := rest1_lt ho
    exact ⟨(ih hb.rest1).1, by have := (ih hb.rest1).2; simp; omega⟩
  · rw [bodT_no ho]; exact ⟨hb, Nat.le_refl _⟩
end Go.Proofs.YthkmacgjekienaaDoor.P
