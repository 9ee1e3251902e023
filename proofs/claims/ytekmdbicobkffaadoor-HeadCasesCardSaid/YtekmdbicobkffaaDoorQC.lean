/- A header's lines in other spellings. -/
import Derived.Test.YtekmdbicobkffaaDoorQ10
import Derived.Test.YtekmdbicobkffaaDoorP10
namespace Go.Proofs.YtekmdbicobkffaaDoor.Pure
open Go.RowKit Go.Proofs.YtekmdbicobkffaaDoor.P Go.Proofs.YtekmdbicobkffaaDoorW.PrintWords Go.Proofs.YtekmdbicobkffaaDoorW.PrintMore
set_option linter.unusedVariables false
set_option linter.unusedSimpArgs false
def CLl : List Int := [99, 111, 110, 116, 101, 110, 116, 45, 108, 101, 110, 103, 116, 104]
def CLs : ByteArray := ⟨#[99, 111, 110, 116, 101, 110, 116, 45, 108, 101, 110, 103, 116, 104]⟩
theorem CL_bt : ∀ i : Nat, i < 14 → bt CLs (i : Int) = CLl.getD i 0 ∧ (bt CLs (i : Int) = 45 ∨ (97 ≤ bt CLs (i : Int) ∧ bt CLs (i : Int) ≤ 122)) := by decide +kernel
theorem CL_take (i : Nat) (h : i < 14) : CLl.take (i + 1) = CLl.take i ++ [CLl.getD i 0] := by
  have h2 : i < CLl.length := h
  rw [List.take_succ_eq_append_getElem h2]
  simp [List.getD, h2]
theorem mixed_loop (bits : Int) (d : Nat) : ∀ (i : Nat) (acc : List Int), i + d = 14 → acc.length = i → acc.map lowI = CLl.take i → acc.all nameI = true →
    ∃ m : List Int, Ev (fun k => colophonlaw06_mixed.l0 k CLs bits acc (i : Int)) (strOfNums m) ∧ m.map lowI = CLl ∧ m.all nameI = true ∧ m.length = 14 := by
  induction d with
  | zero =>
    intro i acc hi hl hm ha
    have : i = 14 := by omega
    subst this
    refine ⟨acc, Ev.step (f := fun _ => some (strOfNums acc)) (fun k => ?_) (Ev.now _), hm, ha, hl⟩
    unfold colophonlaw06_mixed.l0
    rw [if_neg (by decide)]
  | succ d ih =>
    intro i acc hi hl hm ha
    have hi14 : i < 14 := by omega
    obtain ⟨e1, e2⟩ := CL_bt i hi14
    have hw : wrap64 ((i : Int) + 1) = ((i + 1 : Nat) : Int) := by rw [wrap_nat (by omega) (by omega)]; omega
    have hsz : (i : Int) < (CLs.size : Int) := by show (i : Int) < 14; omega
    have go : ∀ c : Int, lowI c = bt CLs (i : Int) → nameI c = true → ∃ m : List Int, Ev (fun k => colophonlaw06_mixed.l0 k CLs bits (acc ++ [c]) ((i + 1 : Nat) : Int)) (strOfNums m) ∧ m.map lowI = CLl ∧ m.all nameI = true ∧ m.length = 14 := fun c h1 h2 =>
      ih (i + 1) (acc ++ [c]) (by omega) (by rw [List.length_append, hl]; rfl) (by rw [List.map_append, hm, CL_take i hi14, ← e1, ← h1]; rfl) (by rw [List.all_append, ha]; simpa using h2)
    have low : ∀ c : Int, (c = 45 ∨ (97 ≤ c ∧ c ≤ 122)) → lowI c = c ∧ nameI c = true := fun c h => by
      unfold lowI nameI
      rcases h with rfl | h
      · exact ⟨rfl, rfl⟩
      · rw [if_neg (by omega), decide_eq_true h.1, decide_eq_true h.2]
        exact ⟨rfl, rfl⟩
    have up : ∀ c : Int, 97 ≤ c → c ≤ 122 → lowI ((c - 32) % 256) = c ∧ nameI ((c - 32) % 256) = true := fun c h1 h2 => by
      have e : (c - 32) % 256 = c - 32 := by omega
      rw [e]
      unfold lowI nameI
      rw [if_pos (by omega), decide_eq_true (show 65 ≤ c - 32 by omega), decide_eq_true (show c - 32 ≤ 90 by omega)]
      exact ⟨by omega, by simp⟩
    obtain ⟨l1, l2⟩ := low _ e2
    have hcap : acc.length < 140737488355328 := by omega
    have h40 : 0 ≤ Int.tmod (i : Int) 40 := Int.tmod_nonneg _ (by omega)
    by_cases c1 : bt CLs (i : Int) ≥ 97
    · by_cases c2 : bt CLs (i : Int) ≤ 122
      · by_cases c3 : Go.bits .and .i64 (shr .i64 bits (Int.tmod (i : Int) 40)) 1 = 1
        · obtain ⟨m, h1, h2⟩ := go _ (up _ c1 c2).1 (up _ c1 c2).2
          refine ⟨m, Ev.step (fun k => ?_) h1, h2⟩
          conv => lhs; unfold colophonlaw06_mixed.l0
          rw [if_pos hsz, if_pos (by omega), if_pos c1, if_pos c2, if_pos h40, if_pos c3, if_pos hcap, hw]
        · obtain ⟨m, h1, h2⟩ := go _ l1 l2
          refine ⟨m, Ev.step (fun k => ?_) h1, h2⟩
          conv => lhs; unfold colophonlaw06_mixed.l0
          rw [if_pos hsz, if_pos (by omega), if_pos c1, if_pos c2, if_pos h40, if_neg c3, if_pos hcap, hw]
      · obtain ⟨m, h1, h2⟩ := go _ l1 l2
        refine ⟨m, Ev.step (fun k => ?_) h1, h2⟩
        conv => lhs; unfold colophonlaw06_mixed.l0
        rw [if_pos hsz, if_pos (by omega), if_pos c1, if_neg c2, if_pos hcap, hw]
    · obtain ⟨m, h1, h2⟩ := go _ l1 l2
      refine ⟨m, Ev.step (fun k => ?_) h1, h2⟩
      conv => lhs; unfold colophonlaw06_mixed.l0
      rw [if_pos hsz, if_pos (by omega), if_neg c1, if_pos hcap, hw]
theorem mixed_ev (bits : Int) : ∃ m : List Int, Ev (fun k => colophonlaw06_mixed.f k CLs bits) (strOfNums m) ∧ m.map lowI = CLl ∧ m.all nameI = true ∧ m.length = 14 := mixed_loop bits 14 0 [] rfl rfl rfl rfl
theorem letters_loop (l : List Int) (hb : Byt l) (d : Nat) : ∀ (i : Nat) (acc : List Int), i + d = 20 → acc.length = i → (∀ x ∈ acc, 97 ≤ x ∧ x ≤ 122) →
    ∃ t : List Int, Ev (fun k => colophonlaw06_letters.l0 k l acc (i : Int)) (strOfNums t) ∧ (∀ x ∈ t, 97 ≤ x ∧ x ≤ 122) ∧ t.length ≤ 20 := by
  induction d with
  | zero =>
    intro i acc hi hl ha
    refine ⟨acc, Ev.step (f := fun _ => some (strOfNums acc)) (fun k => ?_) (Ev.now _), ha, by omega⟩
    unfold colophonlaw06_letters.l0
    by_cases h : (i : Int) < (l.length : Int)
    · rw [if_pos h, if_neg (by omega)]
    · rw [if_neg h]
  | succ d ih =>
    intro i acc hi hl ha
    by_cases h : (i : Int) < (l.length : Int)
    · have hr := hb _ (List.getElem_mem (show i < l.length by omega))
      have hrd := rd_getElem (show i < l.length by omega)
      have ht : 0 ≤ Int.tmod (rd l (i : Int)) 26 ∧ Int.tmod (rd l (i : Int)) 26 < 26 := by
        rw [Int.tmod_eq_emod_of_nonneg (by rw [hrd]; exact hr.1)]
        omega
      obtain ⟨t, h1, h2⟩ := ih (i + 1) (acc ++ [(97 + Int.tmod (rd l (i : Int)) 26) % 256]) (by omega) (by rw [List.length_append, hl]; rfl) (fun x hx => by
        rcases List.mem_append.1 hx with hx | hx
        · exact ha x hx
        · rw [List.mem_singleton.1 hx]; omega)
      refine ⟨t, Ev.step (fun k => ?_) h1, h2⟩
      conv => lhs; unfold colophonlaw06_letters.l0
      rw [if_pos h, if_pos (by omega), if_pos (by omega), if_pos (by omega), show wrap64 ((i : Int) + 1) = ((i + 1 : Nat) : Int) by rw [wrap_nat (by omega) (by omega)]; omega]
    · refine ⟨acc, Ev.step (f := fun _ => some (strOfNums acc)) (fun k => ?_) (Ev.now _), ha, by omega⟩
      unfold colophonlaw06_letters.l0
      rw [if_neg h]
theorem letters_ev (l : List Int) (hb : Byt l) : ∃ t : List Int, Ev (fun k => colophonlaw06_letters.f k l) (strOfNums t) ∧ (∀ x ∈ t, 97 ≤ x ∧ x ≤ 122) ∧ t.length ≤ 20 := letters_loop l hb 20 0 [] rfl rfl (fun x hx => by simp at hx)
/-- a line, by its name and value -/
theorem line_of (n v : List Int) (h0 : n ≠ []) (hn : n.all nameI = true) (hv : v.all valI = true) : lineD (n ++ 58 :: v) = some (n, rtrim (v.dropWhile isBl)) := by
  have hnl : nameLen (n ++ 58 :: v) = n.length := by
    unfold nameLen
    have : (n ++ 58 :: v).takeWhile nameI = n := by
      clear h0 hv
      induction n with
      | nil => rw [List.nil_append, List.takeWhile_cons, if_neg (by decide)]
      | cons a t ih =>
        rw [List.all_cons, Bool.and_eq_true] at hn
        rw [List.cons_append, List.takeWhile_cons, if_pos hn.1, ih hn.2]
    rw [this]
  have hp : 0 < n.length := List.length_pos_iff.mpr h0
  have hdr : (n ++ 58 :: v).drop (n.length + 1) = v := by
    rw [List.drop_append]
    simp
  have hrd : rd (n ++ 58 :: v) (n.length : Int) = 58 := by
    have := rd_right n (58 :: v) 0
    rw [Nat.add_zero] at this
    rw [this]; rfl
  unfold lineD
  rw [hnl, hdr, List.take_left' rfl, if_neg (by rw [hrd]; simp; omega), if_pos hv]
theorem rtrim_app (D b : List Int) (hD : D ≠ []) (hd : ∀ x ∈ D, isBl x = false) (hb : ∀ x ∈ b, isBl x = true) : rtrim (D ++ b) = D := by
  unfold rtrim
  rw [List.reverse_append]
  have h1 : ∀ (x y : List Int), (∀ c ∈ x, isBl c = true) → (∀ c ∈ y, isBl c = false) → (x ++ y).dropWhile isBl = y := by
    intro x
    induction x with
    | nil =>
      intro y _ hy
      cases y with
      | nil => rfl
      | cons a t => rw [List.nil_append, List.dropWhile_cons, if_neg (by rw [hy a (by simp)]; decide)]
    | cons a t ih =>
      intro y hx hy
      rw [List.cons_append, List.dropWhile_cons, if_pos (hx a (by simp)), ih y (fun c hc => hx c (by simp [hc])) hy]
  rw [h1 b.reverse D.reverse (fun c hc => hb c (List.mem_reverse.mp hc)) (fun c hc => hd c (List.mem_reverse.mp hc)), List.reverse_reverse]
theorem dropBl (b D : List Int) (hD : D ≠ []) (hd : ∀ x ∈ D, isBl x = false) (hb : ∀ x ∈ b, isBl x = true) (r : List Int) : (b ++ (D ++ r)).dropWhile isBl = D ++ r := by
  induction b with
  | nil =>
    match D, hD, hd with
    | a :: t, _, hd => rw [List.nil_append, List.cons_append, List.dropWhile_cons, if_neg (by rw [hd a (by simp)]; decide)]
  | cons a t ih => rw [List.cons_append, List.dropWhile_cons, if_pos (hb a (by simp)), ih (fun c hc => hb c (by simp [hc]))]
/-- the line of a length, in another spelling -/
def clX (m b1 : List Int) (u : Nat) (b2 : List Int) : List Int := m ++ 58 :: (b1 ++ ((48 :: 48 :: nd u) ++ b2))
def mrX (t : List Int) : List Int := (120 :: 45 :: t) ++ 58 :: ([32] ++ (t ++ []))
theorem bl_val {b : List Int} (hb : ∀ x ∈ b, isBl x = true) : ∀ x ∈ b, x = 32 ∨ x = 9 := fun x hx => by
  have := hb x hx
  simpa [isBl] using this
theorem dd_dig (u : Nat) : ∀ x ∈ (48 :: 48 :: nd u : List Int), 48 ≤ x ∧ x ≤ 57 := fun x hx => by
  rcases List.mem_cons.1 hx with rfl | hx
  · omega
  · rcases List.mem_cons.1 hx with rfl | hx
    · omega
    · exact dig_range (nd_digits u x hx)
theorem name_rng {m : List Int} (hm : m.all nameI = true) : ∀ x ∈ m, 45 ≤ x ∧ x ≤ 122 := fun x hx => by
  have := List.all_eq_true.mp hm x hx
  simp [nameI] at this
  omega
theorem clX_ln (m b1 : List Int) (u : Nat) (b2 : List Int) (hm : m.all nameI = true) (h1 : ∀ x ∈ b1, isBl x = true) (h2 : ∀ x ∈ b2, isBl x = true) : Ln (clX m b1 u b2) := by
  have key : ∀ x ∈ clX m b1 u b2, x ≠ 13 ∧ 0 ≤ x ∧ x < 256 := fun x hx => by
    unfold clX at hx
    rcases List.mem_append.1 hx with h | h
    · have := name_rng hm x h; omega
    · rcases List.mem_cons.1 h with rfl | h
      · omega
      · rcases List.mem_append.1 h with h | h
        · have := bl_val h1 x h; omega
        · rcases List.mem_append.1 h with h | h
          · have := dd_dig u x h; omega
          · have := bl_val h2 x h; omega
  exact ⟨by simp [clX], fun x hx => (key x hx).1, fun x hx => (key x hx).2⟩
theorem clX_line (m b1 : List Int) (u : Nat) (b2 : List Int) (h0 : m ≠ []) (hm : m.all nameI = true) (h1 : ∀ x ∈ b1, isBl x = true) (h2 : ∀ x ∈ b2, isBl x = true) : lineD (clX m b1 u b2) = some (m, 48 :: 48 :: nd u) := by
  have hd : ∀ x ∈ (48 :: 48 :: nd u : List Int), isBl x = false := fun x hx => by have := dd_dig u x hx; simp [isBl]; omega
  unfold clX
  rw [line_of m _ h0 hm, dropBl b1 (48 :: 48 :: nd u) (by simp) hd h1, rtrim_app _ _ (by simp) hd h2]
  rw [List.all_eq_true]
  intro x hx
  rcases List.mem_append.1 hx with h | h
  · have := bl_val h1 x h; simp [valI]; omega
  · rcases List.mem_append.1 h with h | h
    · have := dd_dig u x h; simp [valI]; omega
    · have := bl_val h2 x h; simp [valI]; omega
theorem clX_eq (m : List Int) (hm : m.all nameI = true) (hl : m.map lowI = CLl) : eqCL m = true := by
  rw [eqCL_is m hm, hl]
  decide +kernel
theorem clX_parsed (u : Nat) (h : u ≤ 65536) : parsed (48 :: 48 :: nd u) 65536 = ((u : Int), 0) := by
  have hall : runLen (48 :: 48 :: nd u) = (48 :: 48 :: nd u : List Int).length := runLen_all fun c hc => by have := dd_dig u c hc; simp [isDig]; omega
  unfold parsed
  rw [if_neg (by decide), if_neg (by rintro (e | e); simp at e; exact e hall)]
  unfold told
  have : val 0 (48 :: 48 :: nd u) = u := by rw [val, val]; exact val_nd u
  rw [this, if_pos (by omega)]
theorem mrX_ln (t : List Int) (ht : ∀ x ∈ t, 97 ≤ x ∧ x ≤ 122) : Ln (mrX t) := by
  have key : ∀ x ∈ mrX t, x ≠ 13 ∧ 0 ≤ x ∧ x < 256 := fun x hx => by
    simp only [mrX, List.mem_append, List.mem_cons, List.not_mem_nil, or_false] at hx
    rcases hx with (rfl | rfl | h) | rfl | rfl | h
    all_goals first | omega | (have := ht x h; omega)
  exact ⟨by simp [mrX], fun x hx => (key x hx).1, fun x hx => (key x hx).2⟩
theorem mrX_line (t : List Int) (ht : ∀ x ∈ t, 97 ≤ x ∧ x ≤ 122) : ∃ v, lineD (mrX t) = some (120 :: 45 :: t, v) := by
  refine ⟨_, line_of (120 :: 45 :: t) _ (by simp) ?_ ?_⟩
  · rw [List.all_eq_true]
    intro x hx
    simp only [List.mem_cons] at hx
    rcases hx with rfl | rfl | h
    · rfl
    · rfl
    · have := ht x h; simp [nameI]; omega
  · rw [List.all_eq_true]
    intro x hx
    simp only [List.mem_append, List.mem_cons, List.not_mem_nil, or_false] at hx
    rcases hx with rfl | h
    · rfl
    · have := ht x h; simp [valI]; omega
theorem mrX_eq (t : List Int) (ht : ∀ x ∈ t, 97 ≤ x ∧ x ≤ 122) : eqCL (120 :: 45 :: t) = false := by
  rw [eqCL_is _ (by
    rw [List.all_eq_true]
    intro x hx
    simp only [List.mem_cons] at hx
    rcases hx with rfl | rfl | h
    · rfl
    · rfl
    · have := ht x h; simp [nameI]; omega)]
  refine decide_eq_false fun h => ?_
  rw [Lib.toList_data, strOfNums_data] at h
  have := congrArg List.head? h
  simp [Lib.bytesOf, lowI] at this
/-- what the header of such lines says -/
theorem says_lns (m b1 : List Int) (u : Nat) (hu : u ≤ 65536) (b2 : List Int) (t : List Int) (h0 : m ≠ []) (hm : m.all nameI = true) (hl : m.map lowI = CLl) (h1 : ∀ x ∈ b1, isBl x = true) (h2 : ∀ x ∈ b2, isBl x = true) (ht : ∀ x ∈ t, 97 ≤ x ∧ x ≤ 122)
    (ls : List (List Int)) (hls : ls = [clX m b1 u b2] ∨ ls = [mrX t, clX m b1 u b2] ∨ ls = [clX m b1 u b2, mrX t] ∨ ls = [clX m b1 u b2, clX m b1 u b2, mrX t]) (hlen : (lns ls).length + 2 ≤ 512) :
    Ev (fun k => colophonlaw06_says.f k (strOfNums (lns ls ++ [13, 10])) (u : Int) (((strOfNums (lns ls ++ [13, 10])).size : Nat) : Int)) true := by
  have lc := clX_ln m b1 u b2 hm h1 h2
  have lm := mrX_ln t ht
  have hall : ∀ o ∈ ls, Ln o := fun o ho => by
    rcases hls with rfl | rfl | rfl | rfl
    all_goals
      simp only [List.mem_cons, List.not_mem_nil, or_false] at ho
      rcases ho with rfl | rfl | rfl <;> first | exact lc | exact lm
  have hne : ls ≠ [] := by rcases hls with rfl | rfl | rfl | rfl <;> simp
  have hb0 : Byt [] := fun x hx => by simp at hx
  obtain ⟨v, hmv⟩ := mrX_line t ht
  have hnl := nd_small_len u hu
  have cl : ∀ (f : Nat) (rest : List Int), Byt rest → ∀ (body : Int) (out : Int × Int), Ev (fun k => if 0 ≤ body then (if (u : Int) = body then hloop k f rest (u : Int) else some (0, 60)) else hloop k f rest (u : Int)) out → Ev (fun k => hloop k (f + 1) (clX m b1 u b2 ++ 13 :: 10 :: rest) body) out := fun f rest hr body out h =>
    loop_cl f _ rest lc hr body _ _ (clX_line m b1 u b2 h0 hm h1 h2) (clX_eq m hm hl) (by simp; omega) (u : Int) (clX_parsed u hu) out h
  have mo : ∀ (k f : Nat) (rest : List Int), Byt rest → ∀ body, hloop k (f + 1) (mrX t ++ 13 :: 10 :: rest) body = hloop k f rest body := fun k f rest hr body => loop_other k f _ rest lm hr body _ v hmv (mrX_eq t ht)
  have fin : ∀ k f, hloop k (f + 1) [] (u : Int) = some ((u : Int), 0) := fun k f => loop_end k f _
  have bm : Byt (mrX t ++ 13 :: 10 :: []) := byt_lns [mrX t] (fun o ho => by rw [List.mem_singleton.mp ho]; exact lm)
  have bc : Byt (clX m b1 u b2 ++ 13 :: 10 :: []) := byt_lns [clX m b1 u b2] (fun o ho => by rw [List.mem_singleton.mp ho]; exact lc)
  have bcm : Byt (clX m b1 u b2 ++ 13 :: 10 :: (mrX t ++ 13 :: 10 :: [])) := byt_lns [clX m b1 u b2, mrX t] (fun o ho => by
    simp only [List.mem_cons, List.not_mem_nil, or_false] at ho
    rcases ho with rfl | rfl
    · exact lc
    · exact lm)
  have hev : Ev (fun k => hloop k ((lns ls).length + 2) (lns ls) (-1)) ((u : Int), 0) := by
    obtain ⟨F, hF⟩ : ∃ F, (lns ls).length + 2 = F + 1 + 1 + 1 + 1 := ⟨(lns ls).length - 2, by have := lns_len ls hall hne; omega⟩
    rw [hF]
    rcases hls with rfl | rfl | rfl | rfl
    · refine cl _ [] hb0 (-1) _ ?_
      simp only [if_neg (show ¬ (0 : Int) ≤ -1 by decide), fin]
      exact Ev.now _
    · refine Ev.congr (fun k => mo k _ _ bc (-1)) ?_
      refine cl _ [] hb0 (-1) _ ?_
      simp only [if_neg (show ¬ (0 : Int) ≤ -1 by decide), fin]
      exact Ev.now _
    · refine cl _ _ bm (-1) _ ?_
      simp only [if_neg (show ¬ (0 : Int) ≤ -1 by decide)]
      refine Ev.congr (fun k => mo k _ _ hb0 _) ?_
      simp only [fin]
      exact Ev.now _
    · refine cl _ _ bcm (-1) _ ?_
      simp only [if_neg (show ¬ (0 : Int) ≤ -1 by decide)]
      refine cl _ _ bm _ _ ?_
      simp only [if_pos (show (0 : Int) ≤ (u : Int) by omega), if_true]
      refine Ev.congr (fun k => mo k _ _ hb0 _) ?_
      simp only [fin]
      exact Ev.now _
  have hp := parse_lns ls hall hne hlen ((u : Int), 0) hev
  unfold outOf at hp
  rw [if_pos rfl, if_neg (by simp only; omega)] at hp
  have hsz : (((strOfNums (lns ls ++ [13, 10])).size : Nat) : Int) = (((lns ls).length + 2 : Nat) : Int) := by rw [strOf_size, List.length_append]; rfl
  rw [hsz]
  exact says_ev _ (byt_hd ls hall) (by rw [List.length_append, List.length_cons, List.length_cons, List.length_nil]; omega) _ _ hp
end Go.Proofs.YtekmdbicobkffaaDoor.Pure
