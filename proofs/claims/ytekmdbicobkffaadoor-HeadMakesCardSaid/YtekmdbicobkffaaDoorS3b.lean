/- bytes.Trim at blanks, by hand: whatever the capacity. -/
import Derived.Test.YtekmdbicobkffaaDoorS2
namespace Go.Proofs.YtekmdbicobkffaaDoor.P
open Go.RowKit Go.Proofs.YtekmdbicobkffaaDoorW.PrintWords Go.Proofs.YtekmdbicobkffaaDoorW.PrintLast Go.Proofs.YtekmdbicobkffaaDoorW.PrintMore
set_option linter.unusedVariables false
set_option linter.unusedSimpArgs false
def isBl (x : Int) : Bool := (x == 32) || (x == 9)
theorem contains73 (b : Nat) (x : Int) (v : Bool) (w : World) (h0 : 0 ≤ x) (h1 : x < 256) (hc : w.cell? ⟨b, x.toNat, none⟩ = some (.bool v)) :
    Calls Tryd.prog 73 #[.pointer (some ⟨b, 0, none⟩), .int .u8 x] w fun e w' => e = .returned (.bool v) ∧ w' = w := by
  have hx : (UInt8.ofNat x.toNat).toNat = x.toNat := by rw [UInt8.toNat_ofNat']; omega
  have := Any.bytes_asciiSet_contains (P := Tryd.prog) (ρ := Tryd.laysV6_ren) { Tryd.laysV6 with } b (UInt8.ofNat x.toNat) v w (by rw [hx]; exact hc)
  rw [hx, show ((x.toNat : Nat) : Int) = x by omega] at this
  exact this
set_option maxRecDepth 1000000 in
set_option maxHeartbeats 4000000 in
theorem trimLeft_c (A : Option Addr) (c : Nat) (l : List Int) (b : Nat) (w : World) (hr : Kd.C (Kd.int .u8) w A l.length l) (hc : l.length ≤ c) (hb : ∀ x ∈ l, 0 ≤ x ∧ x < 256)
    (hset : ∀ x : Int, 0 ≤ x → x < 256 → w.cell? ⟨b, x.toNat, none⟩ = some (.bool (isBl x))) :
    Calls Tryd.prog 58 #[.slice A l.length c, .pointer (some ⟨b, 0, none⟩)] w fun e w' => w = w' ∧ ∃ A' c', e = .returned (.slice A' (l.dropWhile isBl).length c') ∧ (l.dropWhile isBl).length ≤ c' ∧ Kd.C (Kd.int .u8) w A' (l.dropWhile isBl).length (l.dropWhile isBl) := by
  have HS := Aside0.mk hset
  have HR := Aside0.mk hr
  have HB := Aside0.mk hb
  clear hset hr hb
  obtain ⟨res, hres⟩ : ∃ r, r = l.dropWhile isBl := ⟨_, rfl⟩
  rw [← hres]
  have HRES := Aside0.mk hres
  clear hres
  go_enter Tryd.func58, Tryd.ntmps58
  go_wp2
  go_loopg [0] l.length (fun g s0 wx => w = wx ∧ ∃ (m : List Int) (A1 : Option Addr) (c1 : Nat), m.length = g ∧ s0 = .slice A1 m.length c1 ∧ m.length ≤ c1 ∧ Aside0 (Kd.C (Kd.int .u8) w A1 m.length m) ∧ Aside0 (∀ x ∈ m, 0 ≤ x ∧ x < 256) ∧ Aside0 (res = m.dropWhile isBl))
  case atStart => exact ⟨rfl, l, A, c, rfl, rfl, hc, HR, HB, HRES⟩
  case round =>
    obtain ⟨rfl, m, A1, c1, hg, rfl, hc1, HC, HBm, HE⟩ := hrel
    cases m with
    | nil =>
      have HE2 := Aside0.mk (show res = [] from HE.out)
      clear HE
      rw [show ([] : List Int).length = 0 from rfl]
      go_wp2
      go_ret
      refine ⟨rfl, none, 0, ?_, ?_, ?_⟩
      · rw [HE2.out]; rfl
      · rw [HE2.out]; exact Nat.le_refl _
      · rw [HE2.out]; exact Kd.C_nil _ _
    | cons x t =>
      have hlen : (x :: t).length = t.length + 1 := rfl
      have hx := HBm.out x (by simp)
      have HBt := Aside0.mk (show ∀ y ∈ t, 0 ≤ y ∧ y < 256 from fun y hy => HBm.out y (by simp [hy]))
      obtain ⟨ax, ex, hcell⟩ := Kd.at_int HC.out 0 (by omega) (by rw [hlen]; omega)
      subst ex
      rw [show rd (x :: t) 0 = x from rfl] at hcell
      have cc := contains73 b x (isBl x) w hx.1 hx.2 (HS.out x hx.1 hx.2)
      have hDr := Kd.C_drop (k := Kd.int .u8) (m := 1) (c := c1) HC.out (by rw [hlen]; omega) hc1
      rw [show 1 * (Kd.int .u8).sz = 1 from rfl, show List.drop 1 (x :: t) = t from rfl] at hDr
      have HD := Aside0.mk hDr
      clear hDr
      rw [show ax.add (0 : Int).toNat = ax from by simp [Addr.add]] at hcell
      rw [hlen] at hc1 ⊢
      cases hq : isBl x
      · have HE2 := Aside0.mk (show res = x :: t from by rw [HE.out, List.dropWhile_cons, hq]; rfl)
        rw [hq] at cc
        clear HE
        go_wp2_with (go_at_call 73; refine cc.mono ?_; rintro e w' ⟨rfl, rfl⟩)
        go_ret
        refine ⟨rfl, some ax, c1, ?_, ?_, ?_⟩
        · rw [HE2.out]; rfl
        · rw [HE2.out]; exact hc1
        · rw [HE2.out]; exact HC.out
      · have HE2 := Aside0.mk (show res = t.dropWhile isBl from by rw [HE.out, List.dropWhile_cons, hq]; rfl)
        rw [hq] at cc
        clear HE
        obtain ⟨g', rfl⟩ : ∃ g', gk = g' + 1 := ⟨gk - 1, by rw [hlen] at hg; omega⟩
        by_cases h1 : c1 = 1
        · subst h1
          have ht0 : t.length = 0 := by omega
          have HD2 := Aside0.mk (show Kd.C (Kd.int .u8) w (some ax) t.length t from by have := HD.out; rw [if_pos rfl] at this; exact this)
          clear HD
          go_wp2_with (go_at_call 73; refine cc.mono ?_; rintro e w' ⟨rfl, rfl⟩)
          go_roundg g'
          case measure => omega
          case rel => exact ⟨rfl, t, some ax, 0, by rw [hlen] at hg; omega, (by simp [ht0]), by omega, HD2, HBt, HE2⟩
        · have HD2 := Aside0.mk (show Kd.C (Kd.int .u8) w (some (ax.add 1)) t.length t from by have := HD.out; rw [if_neg h1] at this; exact this)
          clear HD
          go_wp2_with (go_at_call 73; refine cc.mono ?_; rintro e w' ⟨rfl, rfl⟩)
          go_roundg g'
          case measure => omega
          case rel => exact ⟨rfl, t, some (ax.add 1), c1 - 1, by rw [hlen] at hg; omega, (by first | rfl | (simp; done)), by omega, HD2, HBt, HE2⟩
def trimK (v : List Int) : Nat := (Lib.trimRightS (Lib.bytesOf v) [32, 9]).length
def trimI (v : List Int) : List Int := (v.take (trimK v)).dropWhile isBl
theorem trimK_le (v : List Int) : trimK v ≤ v.length := by
  unfold trimK Lib.trimRightS
  rw [List.length_reverse]
  have := (List.dropWhile_sublist (fun x => List.contains [32, 9] x) (l := (Lib.bytesOf v).reverse)).length_le
  rw [List.length_reverse, Lib.bytesOf_length] at this
  exact this
theorem set_bl (x : Int) (h0 : 0 ≤ x) (h1 : x < 256) : List.contains [32, 9] (UInt8.ofNat x.toNat) = isBl x := by
  obtain ⟨n, rfl⟩ := Int.eq_ofNat_of_zero_le h0
  have hn : n < 256 := by omega
  have : ∀ n : Nat, n < 256 → List.contains [32, 9] (UInt8.ofNat ((n : Int)).toNat) = isBl (n : Int) := by decide +kernel
  exact this n hn
set_option maxRecDepth 1000000 in
set_option maxHeartbeats 4000000 in
theorem trim_c (A : Option Addr) (c : Nat) (l : List Int) (w : World) (hr : Kd.C (Kd.int .u8) w A l.length l) (hc : l.length ≤ c) (hb : ∀ x ∈ l, 0 ≤ x ∧ x < 256) :
    Calls Tryd.prog 40 #[.slice A l.length c, .string ⟨#[32, 9]⟩] w fun e w' => (∃ A' c', e = .returned (.slice A' (trimI l).length c') ∧ (trimI l).length ≤ c' ∧ Kd.C (Kd.int .u8) w' A' (trimI l).length (trimI l)) ∧ Below w.heap.size w w' := by
  cases l with
  | nil =>
    rw [show ([] : List Int).length = 0 from rfl]
    go_enter Tryd.func40, Tryd.ntmps40
    go_wp2
    go_ret
    exact ⟨⟨none, 0, rfl, Nat.le_refl _, Kd.C_nil _ _⟩, Below.refl _ _⟩
  | cons x0 t0 =>
    generalize hl : x0 :: t0 = l at hr hc hb
    have hpos : 0 < l.length := by rw [← hl]; simp
    clear hl
    have h27 : (Tryd.prog.info? (Tryd.laysV6_ren.t 27)).map (fun i => (i.zero, i.size)) = some (some (.agg (Array.replicate 256 (.bool false))), 256) := by kernel_rfl
    have hv27 := (zero_of_info h27).1
    have hi27 := (zero_of_info h27).2
    have hM := Any.bytes_makeASCIISet (P := Tryd.prog) (ρ := Tryd.laysV6_ren) { Tryd.laysV6 with } hv27 hi27 ⟨#[32, 9]⟩ w (by decide) (fun j b h => by have := List.mem_of_getElem? h; simp at this; rcases this with rfl | rfl <;> decide)
    rw [show (⟨#[32, 9]⟩ : ByteArray).data.toList = [32, 9] from rfl] at hM
    have hM' : Calls Tryd.prog 57 #[.string ⟨#[32, 9]⟩] w fun e w' => e = .returned (.tuple #[.agg (Lib.setCells [32, 9]), .bool true]) ∧ w' = w.alloc (.cells (Lib.setCells [32, 9]) (Tryd.laysV6_ren.t 27)) := hM
    have hn0 : ((l.length : Int) == 0) = false := beq_eq_false_iff_ne.2 (by omega)
    have hsc : (storeCells ⟨w.heap.size + 1, 0, none⟩ (Lib.setCells [32, 9]).toList 0).run Tryd.prog ((w.alloc (.cells (Lib.setCells [32, 9]) (Tryd.laysV6_ren.t 27))).alloc (.cells Tryd.zeroCells73 73)) = .ok () ((w.alloc (.cells (Lib.setCells [32, 9]) (Tryd.laysV6_ren.t 27))).alloc (.cells (Lib.setCells [32, 9]) 73)) := by
      have := run_storeCells_new (P := Tryd.prog) (w.alloc (.cells (Lib.setCells [32, 9]) (Tryd.laysV6_ren.t 27))) 73 Tryd.zeroCells73 (Lib.setCells [32, 9]) (by rw [Lib.setCells_size]; exact hi27) (by rw [Lib.setCells_size]; kernel_rfl) (Lib.setCells_one _)
      rw [alloc_size] at this
      exact this
    have hB2 : Below w.heap.size w ((w.alloc (.cells (Lib.setCells [32, 9]) (Tryd.laysV6_ren.t 27))).alloc (.cells (Lib.setCells [32, 9]) 73)) := below_alloc (below_alloc (Below.refl _ _) _) _
    have hcellAt : ∀ x : UInt8, ((w.alloc (.cells (Lib.setCells [32, 9]) (Tryd.laysV6_ren.t 27))).alloc (.cells (Lib.setCells [32, 9]) 73)).cell? ⟨w.heap.size + 1, x.toNat, none⟩ = some (.bool (List.contains [32, 9] x)) := fun x => by
      rw [World.cell?_alloc_at _ _ _ _ (by simp), Lib.setCells_at]
    generalize (w.alloc (.cells (Lib.setCells [32, 9]) (Tryd.laysV6_ren.t 27))).alloc (.cells (Lib.setCells [32, 9]) 73) = W2 at hsc hB2 hcellAt
    have hr2 := Kd.C_below hr hB2
    have hTR : Calls Tryd.prog 59 #[.slice A l.length c, .pointer (some ⟨w.heap.size + 1, 0, none⟩)] W2 fun e w' => e = .returned (.slice A (trimK l) c) ∧ w' = W2 :=
      Any.bytes_trimRightASCII (P := Tryd.prog) (ρ := Tryd.laysV6_ren) { Tryd.laysV6 with } A l.length c (Lib.bytesOf l) (w.heap.size + 1) [32, 9] W2 (Lib.bytesOf_length l) hc hr.2.1 ((bytesIn_of_C hr2).at8 rfl hb) hcellAt
    have hk := trimK_le l
    have hlt : (l.take (trimK l)).length = trimK l := by rw [List.length_take]; omega
    have hTL := trimLeft_c A c (l.take (trimK l)) (w.heap.size + 1) W2 (Kd.C_take hr2 hk) (by omega) (fun x hx => hb x (List.mem_of_mem_take hx)) (fun x h0 h1 => by
      have := hcellAt (UInt8.ofNat x.toNat)
      rw [show (UInt8.ofNat x.toNat).toNat = x.toNat by rw [UInt8.toNat_ofNat']; omega, set_bl x h0 h1] at this
      exact this)
    rw [hlt] at hTL
    change Calls Tryd.prog 58 _ W2 (fun e w' => W2 = w' ∧ ∃ A' c', e = .returned (.slice A' (trimI l).length c') ∧ (trimI l).length ≤ c' ∧ Kd.C (Kd.int .u8) W2 A' (trimI l).length (trimI l)) at hTL
    have HB2 := Aside0.mk hB2
    clear hcellAt hr2 hr hb hk hlt h27 hv27 hi27 hM hB2
    generalize trimK l = K at hTR hTL
    generalize trimI l = T at hTL ⊢
    go_enter Tryd.func40, Tryd.ntmps40
    go_wp2_with (go_at_call 57; refine hM'.mono ?_; rintro e w' ⟨rfl, hw⟩; rw [hw])
    go_wp2_with (first | (go_at_call 59; refine hTR.mono ?_; rintro e w' ⟨rfl, hw⟩; rw [hw]) | (go_at_call 58; refine hTL.mono ?_; rintro e w' ⟨rfl, A', c', rfl, hT1, hT2⟩))
    go_ret
    exact ⟨⟨A', c', rfl, hT1, hT2⟩, HB2.out⟩
end Go.Proofs.YtekmdbicobkffaaDoor.P
