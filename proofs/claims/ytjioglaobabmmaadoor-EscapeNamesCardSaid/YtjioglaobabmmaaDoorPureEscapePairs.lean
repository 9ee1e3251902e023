/- EscapePairs: the plain law. -/
import Derived.Test.YtjioglaobabmmaaDoorP4
import Derived.Test.YtjioglaobabmmaaDoorP8
import Derived.Test.YtjioglaobabmmaaDoorP9
import Derived.Test.YtjioglaobabmmaaDoorQA
namespace Go.Proofs.YtjioglaobabmmaaDoor.Pure
open Go.RowKit Go.Proofs.YtjioglaobabmmaaDoor.P Go.Proofs.YtjioglaobabmmaaDoorW.PrintWords Go.Proofs.YtjioglaobabmmaaDoorW.PrintMore
set_option linter.unusedVariables false
set_option linter.unusedSimpArgs false
theorem bring_is (a n : Int) (hn : 0 < n) (hm : n ≤ 4611686018427387904) : ∃ x, colophonref00_Bring.f a n = some x ∧ 0 ≤ x ∧ x < n := by
  unfold colophonref00_Bring.f
  have ht : Int.tmod a n = if 0 ≤ a then a % n else -((-a) % n) := by
    split
    · exact Int.tmod_eq_emod_of_nonneg (by assumption)
    · have := Int.neg_tmod (-a) n
      rw [Int.neg_neg] at this
      rw [this, Int.tmod_eq_emod_of_nonneg (by omega)]
  have hr0 : 0 ≤ a % n := Int.emod_nonneg a (by omega)
  have hr1 : a % n < n := Int.emod_lt_of_pos a hn
  have hr2 : 0 ≤ (-a) % n := Int.emod_nonneg (-a) (by omega)
  have hr3 : (-a) % n < n := Int.emod_lt_of_pos (-a) hn
  rw [if_neg (by omega), if_neg (by omega)]
  have hb : -n < Int.tmod a n ∧ Int.tmod a n < n := by rw [ht]; split <;> omega
  by_cases h : Int.tmod a n < 0
  · rw [if_pos h, wrap_nat (by omega) (by omega)]
    exact ⟨_, rfl, by omega, by omega⟩
  · rw [if_neg h]
    exact ⟨_, rfl, by omega, by omega⟩
/-- A digit of base 16, great or small. -/
def digOf (d : Int) (g : Bool) : Int := if d > 9 then (if g then 55 + d else 87 + d) else 48 + d
theorem hexv_dig (d : Int) (g : Bool) (h0 : 0 ≤ d) (h1 : d ≤ 15) : hexv (digOf d g) = some d := by
  unfold digOf hexv
  by_cases h : d > 9
  · cases g
    · simp only [if_pos h, Bool.false_eq_true, if_false, if_neg (show ¬ (48 ≤ 87 + d ∧ 87 + d ≤ 57) by omega), if_pos (show 97 ≤ 87 + d ∧ 87 + d ≤ 102 by omega)]
      congr 1; omega
    · simp only [if_pos h, if_true, if_neg (show ¬ (48 ≤ 55 + d ∧ 55 + d ≤ 57) by omega), if_neg (show ¬ (97 ≤ 55 + d ∧ 55 + d ≤ 102) by omega), if_pos (show 65 ≤ 55 + d ∧ 55 + d ≤ 70 by omega)]
      congr 1; omega
  · simp only [if_neg h, if_pos (show 48 ≤ 48 + d ∧ 48 + d ≤ 57 by omega)]
    congr 1; omega
theorem digOf_range (d : Int) (g : Bool) (h0 : 0 ≤ d) (h1 : d ≤ 15) : 48 ≤ digOf d g ∧ digOf d g ≤ 102 := by
  unfold digOf
  split
  · split <;> omega
  · omega
theorem i64_and15 (x : Int) (h0 : 0 ≤ x) (h1 : x < 9223372036854775808) : Go.bits .and .i64 x 15 = x % 16 :=
  bits_mask .i64 63 (by decide) wraps_i64 4 (by decide) x h0 (by omega)
/-- One digit more. -/
theorem hex_step (x g : Int) (acc : List Int) (i : Int) (d : Int) (hi0 : 0 ≤ i) (hi : i ≤ 3) (hd : x / 2 ^ (4 * i).toNat % 16 = d) (hx0 : 0 ≤ x) (hx1 : x < 65536) (hacc : acc.length ≤ 100) :
    ∃ b : Bool, ∀ r, Ev (fun k => colophonlaw08_hexes.l0 k x g (acc ++ [digOf d b]) (i - 1)) r → Ev (fun k => colophonlaw08_hexes.l0 k x g acc i) r := by
  have hw : wrap64 (4 * i) = 4 * i := wrap_nat (by omega) (by omega)
  have hsh : shr .i64 x (4 * i) = x / 2 ^ (4 * i).toNat := by
    unfold shr
    rw [Nat.min_eq_left (by show (4 * i).toNat ≤ 64; omega)]
  have hq0 : 0 ≤ x / 2 ^ (4 * i).toNat := Int.ediv_nonneg hx0 (Int.pow_nonneg (by decide))
  have hq1 : x / 2 ^ (4 * i).toNat ≤ x := Int.ediv_le_self _ hx0
  have hand : Go.bits .and .i64 (shr .i64 x (wrap64 (4 * i))) 15 = d := by rw [hw, hsh, i64_and15 _ hq0 (by omega), hd]
  have hd0 : 0 ≤ d := by rw [← hd]; exact Int.emod_nonneg _ (by decide)
  have hd1 : d ≤ 15 := by have := Int.emod_lt_of_pos (x / 2 ^ (4 * i).toNat) (show (0 : Int) < 16 by decide); omega
  have hi1 : wrap64 (i - 1) = i - 1 := wrap_nat (by omega) (by omega)
  refine ⟨decide (Go.bits .and .i64 (shr .i64 g i) 1 = 1), fun r hr => Ev.step (fun k => ?_) hr⟩
  simp only [colophonlaw08_hexes.l0]
  rw [if_pos (show i ≥ 0 from hi0), if_pos (by rw [hw]; omega), hand, hi1]
  by_cases h9 : d > 9
  · rw [if_pos h9, if_pos hi0]
    by_cases hg : Go.bits .and .i64 (shr .i64 g i) 1 = 1
    · rw [if_pos hg, if_pos (by omega), wrap_nat (by omega) (by omega)]
      simp only [digOf, if_pos h9, decide_eq_true hg, if_true]
      rw [show (55 + d) % 256 = 55 + d by omega]
    · rw [if_neg hg, if_pos (by omega), wrap_nat (by omega) (by omega)]
      simp only [digOf, if_pos h9, decide_eq_false hg, Bool.false_eq_true, if_false]
      rw [show (87 + d) % 256 = 87 + d by omega]
  · rw [if_neg h9, if_pos (by omega), wrap_nat (by omega) (by omega)]
    simp only [digOf, if_neg h9]
    rw [show (48 + d) % 256 = 48 + d by omega]
/-- The escape of a number of 16 bits. -/
def hexL (x : Int) (b3 b2 b1 b0 : Bool) : List Int := [92, 117, digOf (x / 4096 % 16) b3, digOf (x / 256 % 16) b2, digOf (x / 16 % 16) b1, digOf (x % 16) b0]
theorem hexes_ev (x g : Int) (hx0 : 0 ≤ x) (hx1 : x < 65536) : ∃ b3 b2 b1 b0, Ev (fun k => colophonlaw08_hexes.f k x g) (strOfNums (hexL x b3 b2 b1 b0)) := by
  unfold colophonlaw08_hexes.f
  obtain ⟨b3, s3⟩ := hex_step x g [92, 117] 3 (x / 4096 % 16) (by decide) (by decide) (by rfl) hx0 hx1 (by simp)
  obtain ⟨b2, s2⟩ := hex_step x g [92, 117, digOf (x / 4096 % 16) b3] 2 (x / 256 % 16) (by decide) (by decide) (by rfl) hx0 hx1 (by simp)
  obtain ⟨b1, s1⟩ := hex_step x g [92, 117, digOf (x / 4096 % 16) b3, digOf (x / 256 % 16) b2] 1 (x / 16 % 16) (by decide) (by decide) (by rfl) hx0 hx1 (by simp)
  obtain ⟨b0, s0⟩ := hex_step x g [92, 117, digOf (x / 4096 % 16) b3, digOf (x / 256 % 16) b2, digOf (x / 16 % 16) b1] 0 (x % 16) (by decide) (by decide) (by show x / 1 % 16 = _; rw [Int.ediv_one]) hx0 hx1 (by simp)
  refine ⟨b3, b2, b1, b0, s3 _ (s2 _ (s1 _ (s0 _ (Ev.step (f := fun _ => some _) (fun k => ?_) (Ev.now _)))))⟩
  simp only [colophonlaw08_hexes.l0]
  rw [if_neg (by decide)]
  rfl
theorem unit_hex (x : Int) (b3 b2 b1 b0 : Bool) (t : List Int) (hx0 : 0 ≤ x) (hx1 : x < 65536) : unitR (hexL x b3 b2 b1 b0 ++ t) = (x, 0) := by
  simp only [hexL, List.cons_append, List.nil_append, unitR, if_true, fourR]
  rw [hexv_dig _ _ (by omega) (by omega)]
  simp only
  rw [hexv_dig _ _ (by omega) (by omega)]
  simp only
  rw [hexv_dig _ _ (by omega) (by omega)]
  simp only
  rw [hexv_dig _ _ (by omega) (by omega)]
  simp only
  congr 1
  omega
theorem strOf_append (a b : List Int) : strOfNums a ++ strOfNums b = strOfNums (a ++ b) := by
  apply ByteArray.ext
  simp [strOfNums]
theorem bytesOf_strOf (l : List Int) (h : Bytes l) : bytesOf (strOfNums l) = l := by
  unfold bytesOf strOfNums
  simp only [List.map_map]
  conv => rhs; rw [← List.map_id l]
  apply List.map_congr_left
  intro x hx
  have := h x hx
  simp only [Function.comp_def, UInt8.toNat_ofNat', id]
  omega
theorem xbytes_of (l : List Int) (h : Bytes l) (hl : l.length ≤ 9223372036854775807) : X_bytes.f (strOfNums l) = some l := by
  unfold X_bytes.f
  rw [strOfNums_size, if_pos hl, bytesOf_strOf l h]
theorem unq_end (f : Nat) (l : List Int) (i : Nat) (acc : List Int) (h : i < l.length) (h34 : rd l (i : Int) = 34) : unqR (f + 1) l i acc = (acc, (i : Int) + 1, 0) := by
  rw [unqR, if_pos h, if_pos h34]
theorem unq_esc (f : Nat) (l : List Int) (i : Nat) (acc : List Int) (h : i < l.length) (h92 : rd l (i : Int) = 92) (c n : Int) (he : escR (l.drop i) = (c, n, 0)) : unqR (f + 1) l i acc = unqR f l (i + n.toNat) (acc ++ bytesOfChar c) := by
  rw [unqR, if_pos h, h92, if_neg (by decide), if_neg (by decide), if_pos rfl, he]
  rfl
theorem escR_hex (x : Int) (b3 b2 b1 b0 : Bool) (t : List Int) (hx0 : 0 ≤ x) (hx1 : x < 65536) : escR (hexL x b3 b2 b1 b0 ++ t) =
    if x < 55296 ∨ 57343 < x then (x, 6, 0) else if (unitR t).2 = 0 ∧ x < 56320 ∧ 56320 ≤ (unitR t).1 ∧ (unitR t).1 ≤ 57343 then (65536 + (x - 55296) * 1024 + (unitR t).1 - 56320, 12, 0) else (65533, 6, 0) := by
  unfold escR
  rw [if_neg (by simp [hexL]), show rd (hexL x b3 b2 b1 b0 ++ t) 1 = 117 from rfl, show letR 117 = none from by decide]
  simp only [unit_hex x b3 b2 b1 b0 t hx0 hx1, ne_eq, not_true_eq_false, if_false]
  rw [show (hexL x b3 b2 b1 b0 ++ t).drop 6 = t from rfl]
def oneL (x : Int) : List Int := if isChar x then bytesOfChar x else bytesOfChar 65533
theorem one_is (x : Int) : colophonlaw08_one.f x = some (strOfNums (oneL x)) := by
  unfold colophonlaw08_one.f oneL
  rw [enc_is, Option.bind_some]
  unfold encOf
  by_cases h : isChar x
  · simp only [if_pos h, if_true]
  · simp only [if_neg h]
    rw [if_neg (by decide)]
    rfl
theorem bytesOfChar_bytes (c : Int) (h : isChar c) : Bytes (bytesOfChar c) := by
  rw [isChar_iff] at h
  unfold bytesOfChar Bytes
  intro x hx
  split at hx
  · simp at hx; omega
  · split at hx
    · simp at hx; rcases hx with rfl | rfl <;> omega
    · split at hx
      · simp at hx; rcases hx with rfl | rfl | rfl <;> omega
      · simp at hx; rcases hx with rfl | rfl | rfl | rfl <;> omega
theorem hexL_bytes (x : Int) (b3 b2 b1 b0 : Bool) (hx0 : 0 ≤ x) (hx1 : x < 65536) : Bytes (hexL x b3 b2 b1 b0) := by
  have h3 := digOf_range (x / 4096 % 16) b3 (by omega) (by omega)
  have h2 := digOf_range (x / 256 % 16) b2 (by omega) (by omega)
  have h1 := digOf_range (x / 16 % 16) b1 (by omega) (by omega)
  have h0 := digOf_range (x % 16) b0 (by omega) (by omega)
  intro z hz
  simp only [hexL, List.mem_cons, List.not_mem_nil, or_false] at hz
  rcases hz with rfl | rfl | rfl | rfl | rfl | rfl <;> omega
theorem tells_ev (l want : List Int) (hb : Bytes l) (hl : l.length ≤ 140737488351232) (h : unquoteR l 0 = (want, (l.length : Int), 0)) : Ev (fun k => colophonlaw08_tells.f k (strOfNums l) (strOfNums want)) true := by
  unfold colophonlaw08_tells.f
  simp only [xbytes_of l hb (by omega), Option.bind_some]
  have := (unquote_both l hb hl 0).1
  rw [h] at this
  refine Ev.bind this ?_
  simp only [if_true, strOfNums_size, beq_self_eq_true]
  exact Ev.now _
theorem EscapePairs : colophonlaw08_EscapePairs.Pure := by
  intro a0 a1 a2 _ _ _
  obtain ⟨x, hx, hx0, hx1⟩ := bring_is a0 65536 (by decide) (by decide)
  obtain ⟨y, hy, hy0, hy1⟩ := bring_is a1 65536 (by decide) (by decide)
  obtain ⟨b3, b2, b1, b0, hh1⟩ := hexes_ev x a2 hx0 hx1
  obtain ⟨c3, c2, c1, c0, hh2⟩ := hexes_ev y (a2 / 16) hy0 hy1
  refine Ev.rounds ?_
  unfold colophonlaw08_EscapePairs.f
  simp only [hx, hy, Option.bind_some]
  refine Ev.bind hh1 ?_
  simp only [strOfNums_size, show (hexL x b3 b2 b1 b0).length = 6 from rfl, if_pos (show 1 + 6 ≤ 9223372036854775807 by decide)]
  refine Ev.bind hh2 ?_
  simp only [strOfNums_size, show (hexL y c3 c2 c1 c0).length = 6 from rfl, if_pos (show 1 + 6 + 6 ≤ 9223372036854775807 by decide), if_pos (show 1 + 6 + 6 + 1 ≤ 9223372036854775807 by decide), one_is, Option.bind_some]
  have ho : ∀ z : Int, (oneL z).length ≤ 4 := fun z => by
    have := encOf_len z
    unfold oneL
    split
    · rename_i h; unfold encOf at this; rw [if_pos h] at this; exact this
    · decide
  have ho1 := ho x
  have ho2 := ho y
  simp only [if_pos (show (oneL x).length + (oneL y).length ≤ 9223372036854775807 by omega)]
  generalize hL : (34 : Int) :: (hexL x b3 b2 b1 b0 ++ (hexL y c3 c2 c1 c0 ++ [34])) = L
  have hs : (((⟨#[34]⟩ : ByteArray) ++ strOfNums (hexL x b3 b2 b1 b0)) ++ strOfNums (hexL y c3 c2 c1 c0)) ++ (⟨#[34]⟩ : ByteArray) = strOfNums L := by
    rw [show (⟨#[34]⟩ : ByteArray) = strOfNums [34] from rfl, strOf_append, strOf_append, strOf_append, ← hL]
    simp
  rw [hs, strOf_append]
  have hLb : Bytes L := by
    rw [← hL]
    intro z hz
    simp only [List.mem_cons, List.mem_append, List.not_mem_nil, or_false] at hz
    rcases hz with rfl | h | h | rfl
    · decide
    · exact hexL_bytes x _ _ _ _ hx0 hx1 z h
    · exact hexL_bytes y _ _ _ _ hy0 hy1 z h
    · decide
  have hLl : L.length = 14 := by rw [← hL]; rfl
  have d1 : L.drop 1 = hexL x b3 b2 b1 b0 ++ (hexL y c3 c2 c1 c0 ++ [34]) := by rw [← hL]; rfl
  have d7 : L.drop 7 = hexL y c3 c2 c1 c0 ++ [34] := by rw [← hL]; rfl
  have r0 : rd L 0 = 34 := by rw [← hL]; rfl
  have r1 : rd L ((1 : Nat) : Int) = 92 := by rw [← hL]; rfl
  have r7 : rd L ((7 : Nat) : Int) = 92 := by rw [← hL]; rfl
  have r13 : rd L ((13 : Nat) : Int) = 34 := by rw [← hL]; rfl
  have hstart : unquoteR L 0 = unqR 14 L 1 [] := by
    unfold unquoteR
    rw [if_neg (by decide), if_neg (by omega), if_neg (by omega), if_pos r0, hLl]
    rfl
  have hu2 : unitR (hexL y c3 c2 c1 c0 ++ [34]) = (y, 0) := unit_hex y _ _ _ _ _ hy0 hy1
  -- the second one, alone
  have second : ∀ acc, unqR 13 L 7 acc = (acc ++ oneL y, 14, 0) := by
    intro acc
    have he : escR (L.drop 7) = (if isChar y then y else 65533, 6, 0) := by
      rw [d7, escR_hex y _ _ _ _ _ hy0 hy1]
      have : unitR [34] = (0, 80) := by decide
      rw [this]
      by_cases h : y < 55296 ∨ 57343 < y
      · rw [if_pos h, if_pos (show isChar y from ⟨by omega, by omega, by omega⟩)]
      · rw [if_neg h, if_neg (fun z => absurd z.1 (by decide)), if_neg (show ¬ isChar y from fun z => by have := (isChar_iff y).mp z; omega)]
    rw [unq_esc 12 L 7 acc (by omega) r7 _ _ he, show 7 + (6 : Int).toNat = 13 from rfl, unq_end 11 L 13 _ (by omega) r13]
    unfold oneL
    split <;> rfl
  by_cases hp : 55296 ≤ x ∧ x ≤ 56319 ∧ 56320 ≤ y ∧ y ≤ 57343
  · obtain ⟨p1, p2, p3, p4⟩ := hp
    simp only [if_pos (show x ≥ 55296 from p1), if_pos p2, if_pos (show y ≥ 56320 from p3), decide_eq_true p4]
    have he : escR (L.drop 1) = (65536 + (x - 55296) * 1024 + y - 56320, 12, 0) := by
      rw [d1, escR_hex x _ _ _ _ _ hx0 hx1, hu2, if_neg (by omega), if_pos ⟨rfl, by omega, p3, p4⟩]
    have hch : isChar (65536 + (x - 55296) * 1024 + y - 56320) := by rw [isChar_iff]; omega
    have ht := tells_ev L (bytesOfChar (65536 + (x - 55296) * 1024 + y - 56320)) hLb (by omega) (by
      rw [hstart, unq_esc 13 L 1 [] (by omega) r1 _ _ he, show 1 + (12 : Int).toNat = 13 from rfl, unq_end 12 L 13 _ (by omega) r13, hLl]
      rfl)
    refine Ev.step (f := fun k => (colophonref01_Encode.f (65536 + (x - 55296) * 1024 + y - 56320)).bind fun bt411 => ((colophonlaw08_tells.f k (strOfNums L) (strOfNums bt411.1)).bind fun t415 => (if t415 = true then ((colophonlaw08_awake.f k).bind fun t416 => (some t416)) else (some false)))) (fun k => ?_) ?_
    · simp only [colophonlaw08_EscapePairs.j0, if_true]
      rw [wrap_nat (i := x - 55296) (by omega) (by omega), wrap_nat (i := (x - 55296) * 1024) (by omega) (by omega), wrap_nat (i := 65536 + (x - 55296) * 1024) (by omega) (by omega), wrap_nat (i := 65536 + (x - 55296) * 1024 + y) (by omega) (by omega), wrap_nat (by omega) (by omega)]
    · simp only [enc_is, Option.bind_some, encOf, if_pos hch]
      refine Ev.bind ht ?_
      simp only [if_true]
      exact awake_ev
  · have he : escR (L.drop 1) = (if isChar x then x else 65533, 6, 0) := by
      rw [d1, escR_hex x _ _ _ _ _ hx0 hx1, hu2]
      by_cases h : x < 55296 ∨ 57343 < x
      · rw [if_pos h, if_pos (show isChar x from ⟨by omega, by omega, by omega⟩)]
      · rw [if_neg h, if_neg (fun z => hp ⟨by omega, by have := z.2.1; omega, z.2.2.1, z.2.2.2⟩), if_neg (show ¬ isChar x from fun z => by have := (isChar_iff x).mp z; omega)]
    have ht := tells_ev L (oneL x ++ oneL y) hLb (by omega) (by
      rw [hstart, unq_esc 13 L 1 [] (by omega) r1 _ _ he, show 1 + (6 : Int).toNat = 7 from rfl, second, hLl]
      unfold oneL
      split <;> rfl)
    have hj : Ev (fun k => colophonlaw08_EscapePairs.j0 k x y (strOfNums L) (strOfNums (oneL x ++ oneL y)) false) true := by
      refine Ev.step (f := fun k => (colophonlaw08_tells.f k (strOfNums L) (strOfNums (oneL x ++ oneL y))).bind fun t417 => (if t417 = true then ((colophonlaw08_awake.f k).bind fun t418 => (some t418)) else (some false))) (fun k => ?_) (Ev.bind ht ?_)
      · simp only [colophonlaw08_EscapePairs.j0, Bool.false_eq_true, if_false]
      · simp only [if_true]; exact awake_ev
    by_cases q1 : x ≥ 55296
    · by_cases q2 : x ≤ 56319
      · by_cases q3 : y ≥ 56320
        · simp only [if_pos q1, if_pos q2, if_pos q3, decide_eq_false (show ¬ y ≤ 57343 from fun h => hp ⟨q1, q2, q3, h⟩)]
          exact hj
        · simp only [if_pos q1, if_pos q2, if_neg q3]; exact hj
      · simp only [if_pos q1, if_neg q2]; exact hj
    · simp only [if_neg q1]; exact hj
end Go.Proofs.YtjioglaobabmmaaDoor.Pure
