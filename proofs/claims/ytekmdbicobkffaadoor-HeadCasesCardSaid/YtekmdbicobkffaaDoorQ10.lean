/- What Parse answers of lines. -/
import Derived.Test.YtekmdbicobkffaaDoorPureHeadMakes
import Derived.Test.YtekmdbicobkffaaDoorPureHeadSettled
import Derived.Test.YtekmdbicobkffaaDoorP8
namespace Go.Proofs.YtekmdbicobkffaaDoor.Pure
open Go.RowKit Go.Proofs.YtekmdbicobkffaaDoor.P Go.Proofs.YtekmdbicobkffaaDoorW.PrintWords Go.Proofs.YtekmdbicobkffaaDoorW.PrintMore
set_option linter.unusedVariables false
set_option linter.unusedSimpArgs false
theorem strOf_append (a b : List Int) : strOfNums a ++ strOfNums b = strOfNums (a ++ b) := by
  apply ByteArray.ext
  simp [strOfNums]
theorem bytesOf_strOf (l : List Int) (h : Byt l) : bytesOf (strOfNums l) = l := by
  unfold bytesOf strOfNums
  simp only [List.map_map]
  conv => rhs; rw [← List.map_id l]
  apply List.map_congr_left
  intro x hx
  have := h x hx
  simp only [Function.comp_def, UInt8.toNat_ofNat', id]
  omega
theorem strOf_size (l : List Int) : (strOfNums l).size = l.length := by simp [strOfNums, ByteArray.size]
theorem xbytes_of (l : List Int) (h : Byt l) (hl : l.length ≤ 9223372036854775807) : X_bytes.f (strOfNums l) = some l := by
  unfold X_bytes.f
  rw [strOf_size, if_pos hl, bytesOf_strOf l h]
/-- Of a header made of lines, its loop's answer is told. -/
theorem parse_lns (ls : List (List Int)) (h : ∀ o ∈ ls, Ln o) (hn : ls ≠ []) (hl : (lns ls).length + 2 ≤ 512) (r : Int × Int) (hr : Ev (fun k => hloop k ((lns ls).length + 2) (lns ls) (-1)) r) : Ev (fun k => head_Parse.f k (lns ls ++ [13, 10])) (outOf (((lns ls).length + 2 : Nat) : Int) r) := by
  have hlen : (lns ls ++ [13, 10]).length = (lns ls).length + 2 := by simp
  have he := hd_end ls h hn
  have ht : (lns ls ++ [13, 10]).take 512 = lns ls ++ [13, 10] := List.take_of_length_le (by omega)
  rcases parse_form (lns ls ++ [13, 10]) (byt_hd ls h) (by omega) with ⟨b1, b2⟩ | ⟨E, r', b1, b2, b3, b4, b5, b6, b7⟩
  · rw [ht, he] at b1; omega
  · rw [ht, he] at b1
    have hE : E = (lns ls).length + 2 := by omega
    subst hE
    have e : (lns ls ++ [13, 10]).take ((lns ls).length + 2 - 2) = lns ls := by rw [Nat.add_sub_cancel]; exact List.take_left'  rfl
    have := b6 ((lns ls).length + 2) (Nat.le_refl _)
    rw [e] at this
    rw [ev_one hr this]
    exact b7
/-- Of each beginning of it that it is cut, or too long. -/
theorem parse_cut (ls : List (List Int)) (h : ∀ o ∈ ls, Ln o) (hn : ls ≠ []) (t : Nat) (ht : t < (lns ls).length + 2) (hb : (lns ls).length ≤ 1000) : Ev (fun k => head_Parse.f k ((lns ls ++ [13, 10]).take t)) (0, 0, if 512 ≤ t then 5 else 3) := by
  have hlen : (lns ls ++ [13, 10]).length = (lns ls).length + 2 := by simp
  have hlt : ((lns ls ++ [13, 10]).take t).length = t := by rw [List.length_take]; omega
  rcases parse_form ((lns ls ++ [13, 10]).take t) ((byt_hd ls h).take t) (by omega) with ⟨b1, b2⟩ | ⟨E, r', b1, b2, b3, b4, b5, b6, b7⟩
  · rw [hlt] at b2; exact b2
  · rw [List.take_take, hd_cut ls h hn _ (by omega)] at b1
    omega
theorem parse_long (ls : List (List Int)) (h : ∀ o ∈ ls, Ln o) (hn : ls ≠ []) (hb : (lns ls).length ≤ 1000) (hl : 512 < (lns ls).length + 2) : Ev (fun k => head_Parse.f k (lns ls ++ [13, 10])) (0, 0, 5) := by
  have hlen : (lns ls ++ [13, 10]).length = (lns ls).length + 2 := by simp
  rcases parse_form (lns ls ++ [13, 10]) (byt_hd ls h) (by omega) with ⟨b1, b2⟩ | ⟨E, r', b1, b2, b3, b4, b5, b6, b7⟩
  · rw [if_pos (by omega)] at b2; exact b2
  · rw [hd_cut ls h hn _ hl] at b1
    omega
theorem loop_end (k f : Nat) (body : Int) : hloop k (f + 1) [] body = some (body, 0) := by simp [hloop]
theorem says_ev (l : List Int) (h : Byt l) (hl : l.length ≤ 140737488351232) (n m : Int) (hr : Ev (fun k => head_Parse.f k l) (n, m, 0)) : Ev (fun k => colophonlaw06_says.f k (strOfNums l) n m) true := by
  unfold colophonlaw06_says.f
  simp only [xbytes_of l h (by omega), Option.bind_some]
  refine Ev.bind hr ?_
  simp only [if_true]
  exact Ev.now _
theorem fails_ev (l : List Int) (h : Byt l) (hl : l.length ≤ 140737488351232) (e : Int) (hr : Ev (fun k => head_Parse.f k l) (0, 0, e)) : Ev (fun k => colophonlaw06_fails.f k (strOfNums l) e) true := by
  unfold colophonlaw06_fails.f
  simp only [xbytes_of l h (by omega), Option.bind_some]
  refine Ev.bind hr ?_
  simp only [if_true, beq_self_eq_true]
  exact Ev.now _
theorem lns_one (o : List Int) : lns [o] = o ++ 13 :: 10 :: [] := rfl
theorem cl_loop (u f : Nat) (hu : u ≤ 65536) (rest : List Int) (hr : Byt rest) (body : Int) (out : Int × Int) (h : Ev (fun k => if 0 ≤ body then (if (u : Int) = body then hloop k f rest (u : Int) else some (0, 60)) else hloop k f rest (u : Int)) out) : Ev (fun k => hloop k (f + 1) (clOf u ++ 13 :: 10 :: rest) body) out :=
  loop_cl f (clOf u) rest (cl_ln u) hr body _ _ (cl_line u) cl_eq (by have := nd_small_len u hu; omega) (u : Int) (nd_parsed u hu) out h
theorem ln_cl (u : Nat) : ∀ o ∈ [clOf u], Ln o := fun o ho => by rw [List.mem_singleton.mp ho]; exact cl_ln u
theorem hd_lns (u : Nat) (hu : u ≤ 65536) : (lns [clOf u]).length + 2 = (hdOf u).length := by simp [hdOf]
theorem parse_hd (u : Nat) (hu : u ≤ 65536) : Ev (fun k => head_Parse.f k (hdOf u)) ((u : Int), ((hdOf u).length : Int), 0) := by
  have hl := hd_len u hu
  have he := hd_lns u hu
  have := parse_lns [clOf u] (ln_cl u) (by simp) (by omega) ((u : Int), 0) (by
    rw [lns_one]
    refine cl_loop u _ hu [] (fun x hx => by simp at hx) (-1) _ ?_
    simp only [if_neg (show ¬ (0 : Int) ≤ -1 by decide)]
    obtain ⟨f, hf⟩ : ∃ f, (clOf u ++ [13, 10]).length + 1 = f + 1 := ⟨_, rfl⟩
    simp only [hf, loop_end]
    exact Ev.now _)
  rw [he] at this
  unfold outOf at this
  rw [if_pos rfl, if_neg (by simp only; omega)] at this
  exact this
end Go.Proofs.YtekmdbicobkffaaDoor.Pure
