/- Bodies with their headers, one behind the other: what they are taken as. -/
import Derived.Test.YthkmacgjekienaaDoorG1
namespace Go.Proofs.YthkmacgjekienaaDoor.P
attribute [-simp] List.length_drop List.length_take ByteArray.size_append
open Go.RowKit Go.Shelf Go.Proofs.YthkmacgjekienaaDoor.Pure Go.Proofs.YthkmacgjekienaaDoorW.PrintWords Go.Proofs.YthkmacgjekienaaDoorW.PrintLast Go.Proofs.YthkmacgjekienaaDoorW.PrintMore
set_option linter.unusedVariables false
set_option linter.unusedSimpArgs false
theorem Byt.app {a b : List Int} (ha : Byt a) (hb : Byt b) : Byt (a ++ b) := Byt.append ha hb
theorem byt_hdOf (u : Nat) : Byt (hdOf u) := byt_hd [clOf u] (ln_cl u)
theorem byt_wf {l : List Int} (h : ∀ x ∈ l, (Lit.int .u8 x).wf = true) : Byt l := fun x hx => by
  have := (Lit.wf_int_iff _ _).1 (h x hx)
  simp [IntKind.min, IntKind.max, IntKind.bits, IntKind.signed] at this
  omega
theorem hp_hd (u : Nat) (hu : u ≤ 65536) (t : List Int) (hb : Byt t) (hl : t.length ≤ 140737488355328) : hp (hdOf u ++ t) = ((u : Int), ((hdOf u).length : Int), 0) := by
  have hlen := hd_len u hu
  have ht : (hdOf u ++ t).take (hdOf u).length = hdOf u := by simp
  rcases settled (hdOf u ++ t) (Byt.app (byt_hdOf u) hb) (by rw [List.length_append]; omega) (hdOf u).length (by rw [List.length_append]; omega) with ⟨_, h⟩ | ⟨r, h1, h2, _⟩
  · rw [ht] at h
    have := ev_one h (parse_hd u hu)
    simp at this
  · rw [ht] at h1
    rw [ev_one h1 (parse_hd u hu)] at h2
    exact hp_is h2
theorem bod_hd (x : List Int) (hx : x.length ≤ 65536) (t : List Int) (hb : Byt (x ++ t)) (hl : (x ++ t).length ≤ 140737488355328) : bodT (hdOf x.length ++ (x ++ t)) = (x :: (bodT t).1, (bodT t).2) := by
  have hlen := hd_len x.length hx
  have h := bod_one (l := hdOf x.length ++ (x ++ t)) (n := x.length) (s := (hdOf x.length).length) (bs := (bodT t).1) (r := (bodT t).2) (hp_hd x.length hx _ hb hl) (by omega) (by simp) (by
    rw [← List.append_assoc, List.drop_left' (by simp)])
  rw [h]
  congr 2
  rw [← List.append_assoc, List.take_left' (by simp)]
  simp
theorem bod_x (t : List Int) (hb : Byt t) (hl : t.length ≤ 140737488355328) : bodT ([88, 13, 10, 13, 10] ++ t) = ([], [88, 13, 10, 13, 10] ++ t, 60) := by
  refine bod_no ?_ (by decide)
  have hx : Ev (fun k => head_Parse.f k [88, 13, 10, 13, 10]) (0, 0, 60) := Ev.of (fun k => head_Parse.mono _ k) (show head_Parse.f 60 [88, 13, 10, 13, 10] = some (0, 0, 60) by decide +kernel)
  have ht : ([88, 13, 10, 13, 10] ++ t).take 5 = [88, 13, 10, 13, 10] := by simp
  rcases settled ([88, 13, 10, 13, 10] ++ t) (Byt.app (byt_lit (by decide +kernel)) hb) (by simp; omega) 5 (by simp) with ⟨_, h⟩ | ⟨r, h1, h2, _⟩
  · rw [ht] at h
    have := ev_one h hx
    simp at this
  · rw [ht] at h1
    rw [ev_one h1 hx] at h2
    exact hp_is h2
/-- bodies, of m bytes each at most, with their headers, one behind the other -/
def frs (m : Nat) (l : List (List Int)) : List Int := l.flatMap fun x => hdOf (x.take m).length ++ x.take m
theorem frs_len (m : Nat) (hm : m ≤ 65536) : ∀ l : List (List Int), (frs m l).length ≤ l.length * (m + 40)
  | [] => by simp [frs]
  | x :: l => by
    have ih := frs_len m hm l
    have h1 : (x.take m).length ≤ m := by rw [List.length_take]; omega
    have h2 := hd_len (x.take m).length (by omega)
    have e : frs m (x :: l) = (hdOf (x.take m).length ++ x.take m) ++ frs m l := by simp [frs]
    rw [e, List.length_append, List.length_append, List.length_cons, Nat.add_mul]
    omega
theorem frs_byt (m : Nat) (l : List (List Int)) (h : ∀ x ∈ l, Byt x) : Byt (frs m l) := by
  intro a ha
  obtain ⟨x, hx, ha⟩ := List.mem_flatMap.1 ha
  rcases List.mem_append.1 ha with ha | ha
  · exact byt_hdOf _ a ha
  · exact h x hx a (List.mem_of_mem_take ha)
theorem frs_snoc (m : Nat) (l : List (List Int)) (x : List Int) : frs m (l ++ [x]) = frs m l ++ (hdOf (x.take m).length ++ x.take m) := by simp [frs]
theorem bod_frs (m : Nat) (hm : m ≤ 65536) (t : List Int) (hb : Byt t) : ∀ l : List (List Int), (∀ x ∈ l, Byt x) → (frs m l).length + t.length ≤ 140737488355328 → bodT (frs m l ++ t) = (l.map (List.take m) ++ (bodT t).1, (bodT t).2)
  | [], _, _ => by simp [frs]
  | x :: l, h, hl => by
    have e : frs m (x :: l) ++ t = hdOf (x.take m).length ++ (x.take m ++ (frs m l ++ t)) := by simp [frs]
    have e2 : (frs m (x :: l)).length = (hdOf (x.take m).length).length + (x.take m).length + (frs m l).length := by simp [frs, Nat.add_assoc]
    have h1 : (x.take m).length ≤ m := by rw [List.length_take]; omega
    have ih := bod_frs m hm t hb l (fun y hy => h y (List.mem_cons_of_mem _ hy)) (by omega)
    rw [e, bod_hd _ (by omega) _ (Byt.app ((h x (List.mem_cons_self)).take m) (Byt.app (frs_byt m l fun y hy => h y (List.mem_cons_of_mem _ hy)) hb)) (by rw [List.length_append, List.length_append]; omega), ih]
    simp
end Go.Proofs.YthkmacgjekienaaDoor.P
