/- The document's Bodies. -/
import Derived.Test.YthkmacgjekienaaDoorGC
import Derived.Test.YthkmacgjekienaaDoorP8
namespace Go.Proofs.YthkmacgjekienaaDoor.P
attribute [-simp] List.length_drop List.length_take ByteArray.size_append
open Go.RowKit Go.Shelf Go.Proofs.YthkmacgjekienaaDoor.Pure Go.Proofs.YthkmacgjekienaaDoorW.PrintWords Go.Proofs.YthkmacgjekienaaDoorW.PrintLast Go.Proofs.YthkmacgjekienaaDoorW.PrintMore
set_option linter.unusedVariables false
set_option linter.unusedSimpArgs false
/-- the document's First -/
theorem first_ev (l : List Int) (hb : Byt l) (hl : l.length ≤ 5000000000000) : (ok1 l → Ev (fun k => colophonref07_First.f k l) (body1 l, ((sz l + bn l : Nat) : Int), 0)) ∧ (¬ ok1 l → ∃ x y, Ev (fun k => colophonref07_First.f k l) (x, y, err1 l)) := by
  have hp1 := hp_ref hb (by omega : l.length ≤ 140737488353792)
  refine ⟨fun ho => ?_, fun ho => ?_⟩
  · obtain ⟨n, s, h1, h2, h3, h4, h5, h6⟩ := ok1_ref hb (by omega) ho
    rw [h1] at hp1
    unfold colophonref07_First.f
    refine Ev.bind hp1 ?_
    simp only [if_true]
    have e1 : wrap64 ((l.length : Int) - (s : Int)) = (l.length : Int) - s := by unfold wrap64; omega
    have e2 : wrap64 ((s : Int) + (n : Int)) = ((s + n : Nat) : Int) := by unfold wrap64; omega
    rw [e1, e2, if_neg (by omega), if_pos (by omega), if_pos (by omega), if_pos (by omega)]
    simp only [Int.toNat_natCast]
    rw [copy_some _ (by rw [List.length_drop, List.length_take]; omega)]
    rw [Option.bind_some]
    have hb1 : body1 l = (l.take (s + n)).drop s := by unfold body1; rw [h2, h3]
    rw [hb1, h2, h3]
    exact Ev.now _
  · rcases no1_form hb (by omega) ho with ⟨k1, k2, k3⟩ | ⟨n, s, k1, k2, k3, k4, k5, k6⟩
    · refine ⟨[], 0, ?_⟩
      unfold colophonref07_First.f
      refine Ev.bind hp1 ?_
      rw [if_neg k1, k2]
      exact Ev.now _
    · refine ⟨[], 0, ?_⟩
      rw [k1] at hp1
      unfold colophonref07_First.f
      refine Ev.bind hp1 ?_
      simp only [if_true]
      have e1 : wrap64 ((l.length : Int) - (s : Int)) = (l.length : Int) - s := by unfold wrap64; omega
      rw [e1, if_pos (by omega), k2]
      exact Ev.now _
theorem bodies_loop (l : List Int) : ∀ acc : List (List Int), Byt l → acc.length + l.length ≤ 5000000000000 → Ev (fun k => colophonref07_Bodies.l0 k l acc) (acc ++ (bodT l).1, (bodT l).2.1, (bodT l).2.2) := by
  refine bod_ind (p := fun l => ∀ acc : List (List Int), Byt l → acc.length + l.length ≤ 5000000000000 → Ev (fun k => colophonref07_Bodies.l0 k l acc) (acc ++ (bodT l).1, (bodT l).2.1, (bodT l).2.2)) (fun l ho ih acc hb hl => ?_) (fun l ho acc hb hl => ?_) l
  · have hlt := rest1_lt ho
    have h := (first_ev l hb (by omega)).1 ho
    obtain ⟨_, g1, g2⟩ := ho
    rw [bodT_ok ⟨by assumption, g1, g2⟩]
    refine Ev.step (f := fun k => _) (fun k => by rw [colophonref07_Bodies.l0]) ?_
    refine Ev.bind h ?_
    simp only [if_true]
    simp only [if_pos (show acc.length < 5864062014805 by omega), if_pos (show (0 : Int) ≤ ((sz l + bn l : Nat) : Int) by omega), if_pos (show ((sz l + bn l : Nat) : Int) ≤ (l.length : Int) by omega), Int.toNat_natCast]
    have := ih (acc ++ [body1 l]) hb.rest1 (by simp; omega)
    simpa [rest1] using this
  · rw [bodT_no ho]
    obtain ⟨x, y, h⟩ := (first_ev l hb (by omega)).2 ho
    refine Ev.step (f := fun k => _) (fun k => by rw [colophonref07_Bodies.l0]) ?_
    refine Ev.bind h ?_
    have hne : err1 l ≠ 0 := by
      rcases no1_form hb (by omega) ho with ⟨k1, k2, k3⟩ | ⟨n, s, k1, k2, k3, k4, k5, k6⟩
      · rw [k2]; exact k1
      · rw [k2]; decide
    simp only [if_neg hne, copy_some l (by omega), Option.bind_some, List.append_nil]
    exact Ev.now _
theorem bodies_calls {w : World} {A : Option Addr} {n c : Nat} {l : List Int} (hn : l.length = n) (h1 : Kd.C (Kd.int .u8) w A n l) (hc : n ≤ c) (hb : Byt l) (hl : n ≤ 5000000000000) :
    Calls Tryd.prog 22 #[.slice A n c] w fun e w' => ∃ Ab cb v1, e = .returned (.tuple #[.slice Ab (bodT l).1.length cb, v1, .int .i64 (bodT l).2.2]) ∧ (bodT l).1.length ≤ cb ∧ Kd.C (Kd.slice 5 (Kd.int .u8)) w' Ab (bodT l).1.length (bodT l).1 ∧ Kd.R (Kd.int .u8) 5 w' w.heap.size (fun _ => True) v1 (bodT l).2.1 ∧ Below w.heap.size w w' := by
  subst hn
  obtain ⟨k, hk⟩ := (bodies_loop l [] hb (by simpa using hl)).rounds
  refine (colophonref07_Bodies.calls k (fun k_ => k_ < w.heap.size) A c l (bodT l).1 (bodT l).2.1 (bodT l).2.2 w (Kd.V_mk hc (Kd.C_F ⟨fun _ h => h⟩ h1)) (by unfold colophonref07_Bodies.f; rw [hk]; rfl)).mono ?_
  rintro e w' ⟨v0, v1, rfl, h2, h3, h4⟩
  obtain ⟨Ab, cb, rfl⟩ := Kd.R_slice (Kd.S_R h2)
  obtain ⟨k1, k2, k3⟩ := Kd.R_reads' (Kd.S_R h2)
  exact ⟨Ab, cb, v1, rfl, k2, k3, Kd.R_mono h3 (fun _ _ => trivial), h4⟩
end Go.Proofs.YthkmacgjekienaaDoor.P
