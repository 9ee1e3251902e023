/- Both parsers of headers answer alike. -/
import Derived.Test.YtekmdbicobkffaaDoorQ5
namespace Go.Proofs.YtekmdbicobkffaaDoor.Pure
open Go.RowKit Go.Proofs.YtekmdbicobkffaaDoor.P Go.Proofs.YtekmdbicobkffaaDoorW.PrintWords Go.Proofs.YtekmdbicobkffaaDoorW.PrintMore
set_option linter.unusedVariables false
set_option linter.unusedSimpArgs false
theorem lineD_len {l n v : List Int} (h : lineD l = some (n, v)) : v.length ≤ l.length := by
  unfold lineD at h
  split at h
  · cases h
  · split at h
    · simp only [Option.some.injEq, Prod.mk.injEq] at h
      rw [← h.2]
      unfold rtrim
      have h1 := (List.dropWhile_sublist isBl (l := ((l.drop (nameLen l + 1)).dropWhile isBl).reverse)).length_le
      have h2 := (List.dropWhile_sublist isBl (l := l.drop (nameLen l + 1))).length_le
      rw [List.length_reverse] at h1 ⊢
      rw [List.length_drop] at h2
      omega
    · cases h
theorem rd_sub (l : List Int) (N a j : Nat) (h : a + j < N) : rd ((l.take N).drop a) (j : Int) = rd l ((a + j : Nat) : Int) := by
  rw [rd_drop]
  unfold rd
  rw [Int.toNat_natCast]
  simp [List.getD, List.getElem?_take, h]
theorem pair_sub (l : List Int) (N a j : Nat) (hN : N ≤ l.length) (h : a + j + 1 < N) : pairB ((l.take N).drop a) j = pairB l (a + j) := by
  unfold pairB
  rw [rd_sub l N a j (by omega), rd_sub l N a (j + 1) (by omega), List.length_drop, List.length_take, decide_eq_true (show j + 1 < min N l.length - a by omega), decide_eq_true (show a + j + 1 < l.length by omega)]
  rfl
theorem stop_ev (l : List Int) (hl : l.length ≤ 140737488351232) (E body : Int) (at_ s : Nat) (hs : s < l.length) (r : Int × Int × Int) (hr : Ev (fun k => colophonref06_Parse.l1 k l E body at_ s) r) (d : Nat) : ∀ c : Nat, c + d = s → (∀ j, c ≤ j → j < s → pairB l j = false) → Ev (fun k => colophonref06_Parse.l1 k l E body at_ c) r := by
  induction d with
  | zero => intro c hc _; rw [show c = s by omega]; exact hr
  | succ d ih =>
    intro c hc hn
    have hp := pair_is l (by omega) c (by omega)
    rw [hn c (Nat.le_refl _) (by omega)] at hp
    have hw : wrap64 ((c : Int) + 1) = ((c + 1 : Nat) : Int) := by rw [wrap_nat (by omega) (by omega)]; rfl
    refine Ev.step (fun k => ?_) (ih (c + 1) (by omega) (fun j h1 h2 => hn j (by omega) h2))
    simp only [colophonref06_Parse.l1]
    rw [hp, Option.bind_some, if_neg (by simp), hw]
set_option maxHeartbeats 2000000 in
/-- The document, from the start of a line. -/
theorem doc_line (l : List Int) (hl : l.length ≤ 140737488351232) (E : Nat) (hE4 : 4 ≤ E) (hEl : E ≤ l.length) (body : Int) (at_ s : Nat) (h1 : at_ ≤ s) (h2 : s + 4 ≤ E) (hpl : pairB l s = true) (hpn : ∀ j, at_ ≤ j → j < s → pairB l j = false) (r : Int × Int × Int)
    (hr : Ev (fun k => (colophonref06_Line.f k ((l.take s).drop at_)).bind fun bt172 => (if bt172.2.2 = true then (if bt172.1.toList = ([99, 111, 110, 116, 101, 110, 116, 45, 108, 101, 110, 103, 116, 104] : List UInt8) then ((colophonref05_Parse.f k bt172.2.1 65536).bind fun bt177 => (if bt177.2 = 5 then (some (0, 0, 5)) else (if bt177.2 = 0 then (if body ≥ 0 then (if bt177.1 = body then (colophonref06_Parse.l0 k l E bt177.1 ((s + 2 : Nat) : Int)) else (some (0, 0, 60))) else (colophonref06_Parse.l0 k l E bt177.1 ((s + 2 : Nat) : Int))) else (some (0, 0, 60))))) else (colophonref06_Parse.l0 k l E body ((s + 2 : Nat) : Int))) else (some (0, 0, 60)))) r) : Ev (fun k => colophonref06_Parse.l0 k l E body at_) r := by
  have hw2 : wrap64 ((E : Int) - 2) = ((E - 2 : Nat) : Int) := by rw [wrap_nat (by omega) (by omega)]; omega
  have hpi := pair_is l (by omega) s (by omega)
  rw [hpl] at hpi
  have hws : wrap64 ((s : Int) + 2) = ((s + 2 : Nat) : Int) := by rw [wrap_nat (by omega) (by omega)]; rfl
  have i1 : (0 : Int) ≤ (at_ : Int) := by omega
  have i2 : (at_ : Int) ≤ (s : Int) := by omega
  have i3 : (s : Int) ≤ (l.length : Int) := by omega
  have i4 : (at_ : Int) < ((E - 2 : Nat) : Int) := by omega
  have hs1 : Ev (fun k => colophonref06_Parse.l1 k l E body at_ s) r := by
    refine Ev.step (fun k => ?_) hr
    rw [colophonref06_Parse.l1, hpi, Option.bind_some, if_pos rfl, if_pos i1, if_pos i2, if_pos i3, Int.toNat_natCast, Int.toNat_natCast, hws]
  have hs2 := stop_ev l hl E body at_ s (by omega) r hs1 (s - at_) at_ (by omega) hpn
  refine Ev.step (fun k => ?_) hs2
  rw [colophonref06_Parse.l0, hw2, if_pos i4]
def outOf (E : Int) (t : Int × Int) : Int × Int × Int := if t.2 = 0 then (if t.1 < 0 then (0, 0, 60) else (t.1, E, 0)) else (0, 0, t.2)
set_option maxHeartbeats 2000000 in
theorem loops (l : List Int) (hb : Byt l) (hl : l.length ≤ 140737488351232) (E : Nat) (hE4 : 4 ≤ E) (hEl : E ≤ l.length) (hp4 : pairB l (E - 4) = true) (d : Nat) : ∀ (at_ : Nat) (body : Int) (f : Nat), E - 2 - at_ ≤ d → (at_ + 4 ≤ E ∨ at_ + 2 = E) → d < f →
    ∃ r, Ev (fun k => hloop k f ((l.take (E - 2)).drop at_) body) r ∧ Ev (fun k => colophonref06_Parse.l0 k l E body at_) (outOf E r) := by
  have hw2 : wrap64 ((E : Int) - 2) = ((E - 2 : Nat) : Int) := by rw [wrap_nat (by omega) (by omega)]; omega
  have stop : ∀ (at_ : Nat) (body : Int) (f : Nat), at_ + 2 = E → ∃ r, Ev (fun k => hloop k (f + 1) ((l.take (E - 2)).drop at_) body) r ∧ Ev (fun k => colophonref06_Parse.l0 k l E body at_) (outOf E r) := by
    intro at_ body f h
    have he : (l.take (E - 2)).drop at_ = [] := by rw [List.drop_of_length_le]; rw [List.length_take]; omega
    refine ⟨(body, 0), ?_, ?_⟩
    · rw [he]
      simp only [hloop, List.length_nil, Nat.lt_irrefl, if_false]
      exact Ev.now _
    · refine Ev.step (f := fun _ => some (outOf E (body, 0))) (fun k => ?_) (Ev.now _)
      simp only [colophonref06_Parse.l0, outOf]
      rw [hw2, if_neg (by omega), if_pos trivial]
      split <;> rfl
  induction d with
  | zero =>
    intro at_ body f hd hat hf
    obtain ⟨f, rfl⟩ : ∃ g, f = g + 1 := ⟨f - 1, by omega⟩
    exact stop at_ body f (by omega)
  | succ d ih =>
    intro at_ body f hd hat hf
    obtain ⟨f, rfl⟩ : ∃ g, f = g + 1 := ⟨f - 1, by omega⟩
    rcases hat with hat | hat
    · have hrl : ((l.take (E - 2)).drop at_).length = E - 2 - at_ := by rw [List.length_drop, List.length_take]; omega
      have hrb : Byt ((l.take (E - 2)).drop at_) := (hb.take _).drop _
      have hpr : pairB ((l.take (E - 2)).drop at_) (E - 4 - at_) = true := by
        rw [pair_sub l (E - 2) at_ _ (by omega) (by omega), show at_ + (E - 4 - at_) = E - 4 by omega]; exact hp4
      rcases idx2_spec _ hrb with ⟨h1, h2⟩ | ⟨i, h1, h2, h3⟩
      · rw [h2] at hpr; cases hpr
      · have hi4 : i ≤ E - 4 - at_ := by
          rcases Nat.lt_or_ge (E - 4 - at_) i with g | g
          · rw [h3 _ g] at hpr; cases hpr
          · exact g
        have hpl : pairB l (at_ + i) = true := by rw [← pair_sub l (E - 2) at_ i (by omega) (by omega)]; exact h2
        have hpn : ∀ j, at_ ≤ j → j < at_ + i → pairB l j = false := fun j g1 g2 => by
          have := h3 (j - at_) (by omega)
          rw [pair_sub l (E - 2) at_ _ (by omega) (by omega), show at_ + (j - at_) = j by omega] at this
          exact this
        have hone : ((l.take (E - 2)).drop at_).take i = (l.take (at_ + i)).drop at_ := by
          rw [List.drop_take, List.drop_take, List.take_take]
          congr 1
          omega
        have hrest : ((l.take (E - 2)).drop at_).drop (i + 2) = (l.take (E - 2)).drop (at_ + i + 2) := by rw [List.drop_drop, Nat.add_assoc]
        have hcut : cutF ((l.take (E - 2)).drop at_) = ((l.take (at_ + i)).drop at_, (l.take (E - 2)).drop (at_ + i + 2)) := by
          unfold cutF
          rw [h1, if_pos (by omega), Int.toNat_natCast, hone, hrest]
        have hnext : at_ + i + 2 + 4 ≤ E ∨ at_ + i + 2 + 2 = E := by
          by_cases g : at_ + i + 5 = E
          · exfalso
            have g1 := (pair_lt hpl).2.2
            have g2 := (pair_lt hp4).2.1
            rw [show E - 4 = at_ + i + 1 by omega, g1] at g2
            cases g2
          · omega
        have IH := fun b => ih (at_ + i + 2) b f (by omega) hnext (by omega)
        have hpos : 0 < ((l.take (E - 2)).drop at_).length := by omega
        have hob : Byt ((l.take (at_ + i)).drop at_) := (hb.take _).drop _
        have hol : ((l.take (at_ + i)).drop at_).length ≤ 140737488351232 := by rw [List.length_drop, List.length_take]; omega
        have hln := line_ev _ hob hol
        have hle := line_eq _ hob
        have hnm := fun n v (h : lineD ((l.take (at_ + i)).drop at_) = some (n, v)) => And.intro (lineD_name h) (lineD_len h)
        have doc := doc_line l hl E hE4 hEl body at_ (at_ + i) (by omega) (by omega) hpl hpn
        generalize (l.take (at_ + i)).drop at_ = one at hcut hln hle hnm doc hol
        generalize (l.take (E - 2)).drop (at_ + i + 2) = rest2 at hcut IH
        generalize (l.take (E - 2)).drop at_ = rest at hcut hpos
        have hu : ∀ k, hloop k (f + 1) rest body = (match lineD one with
          | none => some (0, 60)
          | some (n, v) => if eqCL n = true then
              (digits_Parse.f k v 65536).bind fun t => if t.2 = 5 then some (0, 5) else if t.2 = 0 then (if 0 ≤ body then (if t.1 = body then hloop k f rest2 t.1 else some (0, 60)) else hloop k f rest2 t.1) else some (0, 60)
            else hloop k f rest2 body) := fun k => by rw [hloop, if_pos hpos, hcut, hle]; rfl
        simp only [hu]
        cases hD : lineD one with
        | none =>
          rw [hD] at hln
          refine ⟨(0, 60), Ev.now _, doc _ (Ev.bind hln ?_)⟩
          simp only [lineOut, Bool.false_eq_true, if_false]
          exact Ev.now _
        | some nv =>
          obtain ⟨n, v⟩ := nv
          obtain ⟨hna, hvl⟩ := hnm n v hD
          rw [hD] at hln
          have heq := eqCL_is n hna
          simp only
          by_cases hq : eqCL n = true
          · rw [hq] at heq
            have hq2 := of_decide_eq_true heq.symm
            simp only [if_pos hq]
            have p1 := parse_ev v (by omega) 65536 (by decide)
            have p2 := refParse_ev v (by omega) 65536 (by decide)
            generalize parsed v 65536 = t at p1 p2
            obtain ⟨t1, t2⟩ := t
            have key : ∃ r, Ev (fun k => if t2 = 5 then some (0, 5) else if t2 = 0 then (if 0 ≤ body then (if t1 = body then hloop k f rest2 t1 else some (0, 60)) else hloop k f rest2 t1) else some (0, 60)) r ∧ Ev (fun k => (if t2 = 5 then (some (0, 0, 5)) else (if t2 = 0 then (if body ≥ 0 then (if t1 = body then (colophonref06_Parse.l0 k l E t1 ((at_ + i + 2 : Nat) : Int)) else (some (0, 0, 60))) else (colophonref06_Parse.l0 k l E t1 ((at_ + i + 2 : Nat) : Int))) else (some (0, 0, 60))))) (outOf E r) := by
              by_cases h5 : t2 = 5
              · simp only [if_pos h5]
                exact ⟨(0, 5), Ev.now _, Ev.now _⟩
              · simp only [if_neg h5]
                by_cases h0 : t2 = 0
                · simp only [if_pos h0, ge_iff_le]
                  by_cases hbp : 0 ≤ body
                  · simp only [if_pos hbp]
                    by_cases he : t1 = body
                    · simp only [if_pos he]; exact IH t1
                    · simp only [if_neg he]; exact ⟨(0, 60), Ev.now _, Ev.now _⟩
                  · simp only [if_neg hbp]; exact IH t1
                · simp only [if_neg h0]
                  exact ⟨(0, 60), Ev.now _, Ev.now _⟩
            obtain ⟨r, k1, k2⟩ := key
            refine ⟨r, Ev.bind p1 k1, doc _ (Ev.bind hln ?_)⟩
            simp only [lineOut, if_true, eq_true hq2]
            exact Ev.bind p2 k2
          · have hqf : eqCL n = false := by simpa using hq
            rw [hqf] at heq
            have hq2 := of_decide_eq_false heq.symm
            simp only [if_neg hq]
            obtain ⟨r, k1, k2⟩ := IH body
            refine ⟨r, k1, doc _ (Ev.bind hln ?_)⟩
            simp only [lineOut, if_true, eq_false hq2, if_false]
            exact k2
    · exact stop at_ body f hat
end Go.Proofs.YtekmdbicobkffaaDoor.Pure
