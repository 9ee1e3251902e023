/- A table of pieces: cut. -/
import Derived.Test.YtfedlanbmibhkaaS7b
namespace Go.Proofs.Ytfedlanbmibhkaa.P
open Go.RowKit Go.Proofs.YtfedlanbmibhkaaW.PrintWords Go.Proofs.YtfedlanbmibhkaaW.PrintLast Go.Proofs.YtfedlanbmibhkaaW.PrintMore
set_option linter.unusedVariables false
set_option linter.unusedSimpArgs false

theorem cut_close_b {B : Nat} {w : World} {t : Nat} {C : Nat → Prop} {v : Value} {ps : List (List Int)} (h : Tab_b B w t C v ps) {vs : List Value} (HO : w.ownsRow B 22 1 v ps.length vs) (HV : All2 (Bl_b w C) vs ps) (q : Nat) (p : List Int) (hp : ps[q]? = some p) (m : Nat) (h0 : m ≠ 0) (hm : m < p.length)
    {g o' c' : Nat} (hu : vs[q]? = some (.slice (some ⟨g, o', none⟩) p.length c'))
    {w2 : World} {A2 : Option Addr} {c2 : Nat} {o : Obj} (O2 : w2.ownsRow B 22 1 (.slice A2 (ps.length + 1) c2) (ps.length + 1) (vs.take q ++ [.slice (some ⟨g, o', none⟩) m m, .slice (some ⟨g, o' + m, none⟩) (p.length - m) (c' - m)] ++ vs.drop (q + 1))) (S2 : (w.alloc o).grownBy w2 v.ownBlock) (N2 : (Value.slice A2 (ps.length + 1) c2).ownBlock = v.ownBlock ∨ ∃ b, (Value.slice A2 (ps.length + 1) c2).ownBlock = some b ∧ (w.alloc o).heap.size ≤ b) :
    Left_b B t C v (ps.take q ++ [p.take m, p.drop m] ++ ps.drop (q + 1)) w (w2.setCell ⟨t, 1, none⟩ (.slice A2 (ps.length + 1) c2)) := by
  have hq : q < ps.length := (List.getElem?_eq_some_iff.1 hp).1
  have s2 : Below w.heap.size w (w.alloc o) := below_alloc (Below.refl _ w) o
  have hox : w.heap.size ≤ (w.alloc o).heap.size := s2.size
  have hbox := h.box
  have ht := blk_lt hbox
  have hown : ∀ b, v.ownBlock = some b → b ≠ t := fun b hb => (h.ownB b hb).2.2
  have hb2 : w2.heap[t]? = some (.cells #[.bool true, v] 71 (0, 0)) := (S2.block t (Nat.lt_of_lt_of_le ht hox) (fun e => hown t e.symm rfl)).trans ((s2.block t ht).trans hbox)
  have eff : Eff_b t v.ownBlock w w2 := (Eff_b.of_below s2).trans (Eff_b.of_grown S2) (.inl rfl)
  have hb3 := blk_set hb2 1 (.slice A2 (ps.length + 1) c2)
  have hne := own_ne O2 hb2 (by decide)
  have O3 := own_setCell O2 (p := ⟨t, 1, none⟩) hne (.slice A2 (ps.length + 1) c2)
  have old : ∀ u p, Bl_b w C u p → Bl_b (w2.setCell ⟨t, 1, none⟩ (.slice A2 (ps.length + 1) c2)) C u p := by
    intro u p hb
    obtain ⟨g, o', c, cs, e, hc, hb, h1, h2, h3⟩ := hb
    have n1 : g ≠ t := blk_ne hb hbox (by decide)
    have n2 : some g ≠ v.ownBlock := by
      rcases own_rowAt HO with ⟨rfl, -, -⟩ | ⟨g2, cap, cur, rfl, hR⟩
      · simp [Value.ownBlock]
      · intro e; cases e; exact absurd rfl (blk_ne hb hR.blk (by decide))
    exact ⟨g, o', c, cs, e, hc, ((eff.set 1 _).blk g (blk_lt hb) n1 n2).trans hb, h1, h2, h3⟩
  have HN := HV.imp old
  obtain ⟨g', o1, c1, cs, e, hc, hb, h1, h2, h3⟩ := HN.get q _ p hu hp
  injection e with e1 _ e3
  injection e1 with e1
  injection e1 with ea eb
  subst ea; subst eb; subst e3
  have b1 : Bl_b (w2.setCell ⟨t, 1, none⟩ (.slice A2 (ps.length + 1) c2)) C (.slice (some ⟨g, o', none⟩) m m) (p.take m) := by
    have hl : (p.take m).length = m := by rw [List.length_take]; omega
    refine ⟨g, o', m, cs, by rw [hl], hc, hb, by omega, by omega, fun j x hx => h3 j x ?_⟩
    rw [List.getElem?_take] at hx
    split at hx
    · exact hx
    · cases hx
  have b2 : Bl_b (w2.setCell ⟨t, 1, none⟩ (.slice A2 (ps.length + 1) c2)) C (.slice (some ⟨g, o' + m, none⟩) (p.length - m) (c' - m)) (p.drop m) := by
    refine ⟨g, o' + m, c' - m, cs, by rw [List.length_drop], hc, hb, by rw [List.length_drop]; omega, by omega, fun j x hx => ?_⟩
    rw [Nat.add_assoc]
    exact h3 (m + j) x (by rwa [List.getElem?_drop] at hx)
  refine ⟨.slice A2 (ps.length + 1) c2, ⟨h.lo, hb3, ⟨_, by
      rw [show (ps.take q ++ [p.take m, p.drop m] ++ ps.drop (q + 1)).length = ps.length + 1 by simp only [List.length_append, List.length_take, List.length_cons, List.length_nil, List.length_drop]; omega]
      exact O3, ((HN.take q).append (.cons b1 (.cons b2 .nil))).append (HN.drop (q + 1))⟩, ?_⟩, eff.set 1 _, ?_⟩
  · have hf := h.full
    refine full_append.mpr ⟨full_append.mpr ⟨fun x hx => hf x (List.mem_of_mem_take hx), full_cons.mpr ⟨?_, full_cons.mpr ⟨?_, full_nil⟩⟩⟩, fun x hx => hf x (List.mem_of_mem_drop hx)⟩
    · intro e; have := congrArg List.length e; rw [List.length_take] at this; simp only [List.length_nil] at this; omega
    · intro e; have := congrArg List.length e; rw [List.length_drop] at this; simp only [List.length_nil] at this; omega
  · rcases N2 with e | ⟨b, e, hb⟩
    · exact .inl e
    · exact .inr ⟨b, e, Nat.le_trans hox hb⟩

set_option maxHeartbeats 4000000 in
set_option maxRecDepth 100000 in
theorem cut_calls_b {B : Nat} {w : World} {t : Nat} {C : Nat → Prop} {v : Value} {ps : List (List Int)} (h : Tab_b B w t C v ps) (k : Nat) (hk : k ≤ ps.flatten.length) (hs : ps.flatten.length ≤ 4611686018427387904) (hn : ps.length ≤ 1000000) (hB : B ≤ w.heap.size) :
    Calls Try.prog 39 #[.pointer (some ⟨t, 0, none⟩), .int .i64 k] w fun e w' => e = .returned (.int .i64 ((cutS ps k).2 : Int)) ∧ Left_b B t C v (cutS ps k).1 w w' := by
  obtain ⟨-, hc1, hf1⟩ := h.cells
  obtain ⟨vs, ho, hr⟩ := h.row
  obtain ⟨A, c, rfl⟩ := own_slice ho
  have H := Aside0.mk h
  have HR := Aside0.mk hr
  have HO := Aside0.mk ho
  have HX : Aside0 (∀ x ∈ vs, x.oneCell' = true) := ⟨hr.left fun _ _ hb => hb.one⟩
  have HK := Aside0.mk hk
  have HSZ := Aside0.mk hs
  clear h ho hr hk hs
  go_enter Try.func39, Try.ntmps39
  go_wp2
  go_loop [1, 12] (fun a i => ∃ (q m : Nat), q ≤ ps.length ∧ i = .int .i64 q ∧ a = .int .i64 (m : Int) ∧ Aside0 (m + (ps.take q).flatten.length = k ∧ cutS ps k = (ps.take q ++ (cutS (ps.drop q) m).1, q + (cutS (ps.drop q) m).2))) (fun _ i => ps.length - (intOf i).toNat)
  case atStart => exact ⟨0, k, Nat.zero_le _, rfl, rfl, ⟨by simp, by simp⟩⟩
  case round =>
    obtain ⟨q, m, hq, rfl, rfl, hI⟩ := hrel
    have HM : Aside0 (m ≤ k) := ⟨by have := hI.out.1; omega⟩
    by_cases hlt : q < ps.length
    · obtain ⟨p, hp⟩ := getElem_lt hlt
      obtain ⟨u, hu⟩ := getElem_lt (show q < vs.length by have := HO.out.1; omega)
      have HU := Aside0.mk (HR.out.get q u p hu hp)
      have HPp := Aside0.mk hp
      have HUu := Aside0.mk hu
      obtain ⟨g, o, c', cs, rfl, hCg, hbk, hpc, hcm, hcs⟩ := HR.out.get q u p hu hp
      obtain ⟨g1, cap, cur, e1, hR⟩ : ∃ g1 cap cur, (Value.slice A ps.length c) = .slice (some ⟨g1, 0, none⟩) ps.length cap ∧ RowAt w B g1 ps.length cap 22 cur vs := by
        rcases own_rowAt HO.out with ⟨e, h0, -⟩ | h
        · omega
        · exact h
      injection e1 with e1 _ e3
      subst e1; subst e3
      have hcell := hR.cell q _ hu
      have hpl : p.length ≤ 4611686018427387904 := by
        have h1 := flat_take_succ hp
        have h2 := flat_take_le ps (q + 1)
        have := HSZ.out
        omega
      have hmk : m ≤ 4611686018427387904 := by have := HM.out; have := HK.out; have := HSZ.out; omega
      clear hR hp hu hCg hbk hcs
      by_cases hm0 : m = 0
      · subst hm0
        have e : cutS ps k = (ps, q) := by
          rw [hI.out.2]
          have h0 : cutS (ps.drop q) 0 = (ps.drop q, 0) := by cases ps.drop q <;> simp [cutS]
          rw [h0]; simp
        have HE := Aside0.mk e
        clear e
        go_wp2
        go_ret
        rw [HE.out]
        exact ⟨rfl, _, H.out, Eff_b.refl _ _ _, .inl rfl⟩
      · have hm1 : ((m : Int) == 0) = false := by simp; omega
        by_cases hmp : m < p.length
        · have hm2 : decide ((m : Int) < (p.length : Int)) = true := by simp; omega
          have hm3 : (m : Int) ≤ (p.length : Int) := by omega
          have hm4 : ¬ (c' = m) := by omega
          have hm5 : m ≤ c' := by omega
          go_wp2
          have hw1 : IntKind.i64.wrap ((q : Int) + 1) = (q : Int) + 1 := by rw [IntKind.wrap_i64]; omega
          obtain ⟨kac, kaf⟩ := slot_alloc (W := w) (Obj.cells #[.slice (some ⟨g, o, none⟩) m m, .slice (some ⟨g, o + m, none⟩) (p.length - m) (c' - m)] 22) ⟨hc1, hf1⟩
          go_region_with ((first
            | (go_at_call 51; refine (repl_calls_b B ps.length q w.heap.size _ vs (.slice (some ⟨g, o, none⟩) m m) (.slice (some ⟨g, o + m, none⟩) (p.length - m) (c' - m)) _ (pw_own_below HO.out (below_alloc (Below.refl _ w) _)).drew hlt hn (heap_alloc_new w _) (fun e_ => absurd (H.out.ownB _ e_.symm).2.1 (Nat.lt_irrefl _)) HX.out rfl rfl (Nat.le_trans hB (by rw [World.size_drew, World.size_alloc]; exact Nat.le_succ _))).mono ?_; rintro e w2 ⟨v2, rfl, ho2, hg2, ha2⟩; obtain ⟨A2, c2, rfl⟩ := own_slice ho2; have O2 := Aside0.mk ho2; have S2 := Aside0.mk hg2; have N2 := Aside0.mk ha2; have k2 := slot_grown hg2 (fun e_ => (H.out.ownB _ e_.symm).2.2 rfl) (slot_alloc (W := w) (Obj.cells #[.slice (some ⟨g, o, none⟩) m m, .slice (some ⟨g, o + m, none⟩) (p.length - m) (c' - m)] 22) ⟨hc1, hf1⟩); obtain ⟨k2c, k2f⟩ := k2; clear ho2 hg2 ha2)))
          all_goals go_wp2
          all_goals go_ret
          all_goals refine ⟨?_, ?_⟩
          all_goals first
            | (rw [hI.out.2, drop_get HPp.out]; simp only [cutS, if_neg hm0, if_pos hmp]; go_num)
            | (rw [hI.out.2, drop_get HPp.out]; simp only [cutS, if_neg hm0, if_pos hmp]; have hcl := cut_close_b H.out HO.out HR.out q p HPp.out m hm0 hmp HUu.out O2.out (grown_drew S2.out) N2.out; rw [List.append_assoc] at hcl; exact hcl)
        · have hm2 : decide ((m : Int) < (p.length : Int)) = false := by simp; omega
          have hm3 : (0 : Int) ≤ (m : Int) - (p.length : Int) := by omega
          go_wp2
          go_round
          case rel =>
            refine ⟨q + 1, m - p.length, by omega, by go_num, ret_num (by omega), ?_, ?_⟩
            · rw [flat_take_succ HPp.out]; have := hI.out.1; omega
            · rw [hI.out.2, drop_get HPp.out, take_get HPp.out]
              simp only [cutS, if_neg hm0, if_neg hmp, List.append_assoc, List.singleton_append, Prod.mk.injEq, true_and]
              omega
          case measure => simp [intOf]; omega
    · obtain rfl : q = ps.length := by omega
      have e : cutS ps k = (ps, ps.length) := by rw [hI.out.2]; simp [cutS]
      have HE := Aside0.mk e
      clear e
      go_wp2
      go_ret
      rw [HE.out]
      exact ⟨rfl, _, H.out, Eff_b.refl _ _ _, .inl rfl⟩
end Go.Proofs.Ytfedlanbmibhkaa.P
