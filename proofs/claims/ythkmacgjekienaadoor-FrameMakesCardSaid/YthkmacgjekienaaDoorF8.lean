/- The chapter's examples: what the reader answers to them. -/
import Derived.Test.YthkmacgjekienaaDoorF7
namespace Go.Proofs.YthkmacgjekienaaDoor.P
attribute [-simp] List.length_drop List.length_take ByteArray.size_append
open Go.RowKit Go.Shelf Go.Proofs.YthkmacgjekienaaDoor.Pure Go.Proofs.YthkmacgjekienaaDoorW.PrintWords Go.Proofs.YthkmacgjekienaaDoorW.PrintLast Go.Proofs.YthkmacgjekienaaDoorW.PrintMore
set_option linter.unusedVariables false
set_option linter.unusedSimpArgs false
theorem hp_lit {l : List Int} {r : Int × Int × Int} (k : Nat) (h : head_Parse.f k l = some r) : hp l = r := hp_is (Ev.of (fun k => head_Parse.mono l k) h)
theorem bod_no {l : List Int} {e : Int} (h : hp l = (0, 0, e)) (h0 : e ≠ 0) : bodT l = ([], l, e) := by
  rw [bodT_no (fun h1 => h0 (by have := h1.1; rw [h] at this; exact this))]
  unfold err1
  rw [h, if_neg h0]
theorem bod_few {l : List Int} {n s : Nat} (h : hp l = ((n : Int), (s : Int), 0)) (h2 : 2 ≤ s) (hl : l.length < s + n) : bodT l = ([], l, 3) := by
  have e1 : sz l = s := by unfold sz; rw [h]; rfl
  have e2 : bn l = n := by unfold bn; rw [h]; rfl
  rw [bodT_no (fun h1 => by have := h1.2.1; rw [e1, e2] at this; omega)]
  unfold err1
  rw [h, if_pos rfl]
theorem bod_one {l : List Int} {n s : Nat} (h : hp l = ((n : Int), (s : Int), 0)) (h2 : 2 ≤ s) (hl : s + n ≤ l.length) {bs : List (List Int)} {r : List Int × Int} (hr : bodT (l.drop (s + n)) = (bs, r)) : bodT l = ((l.take (s + n)).drop s :: bs, r) := by
  have e1 : sz l = s := by unfold sz; rw [h]; rfl
  have e2 : bn l = n := by unfold bn; rw [h]; rfl
  rw [bodT_ok ⟨by rw [h], by rw [e1, e2]; exact hl, by rw [e1]; exact h2⟩]
  unfold rest1 body1
  rw [e1, e2, hr]
def aw1 : List Int := [67, 111, 110, 116, 101, 110, 116, 45, 76, 101, 110, 103, 116, 104, 58, 32, 50, 13, 10, 13, 10, 123, 125, 67, 111, 110, 116, 101, 110, 116, 45, 76, 101]
def aw1l : List Int := [67, 111, 110, 116, 101, 110, 116, 45, 76, 101]
def aw2 : List Int := [110, 103, 116, 104, 58, 32, 49, 13, 10, 13, 10]
theorem aw1_is : bodT ([] ++ aw1) = ([[123, 125]], aw1l, 3) :=
  bod_one (n := 2) (s := 21) (hp_lit 60 (by decide +kernel)) (by decide) (by decide) (bod_no (hp_lit 60 (by decide +kernel)) (by decide))
theorem aw2_is : bodT (aw1l ++ aw2) = ([], aw1l ++ aw2, 3) := bod_few (n := 1) (s := 21) (hp_lit 60 (by decide +kernel)) (by decide) (by decide)
theorem aw3_is : bodT ((aw1l ++ aw2) ++ [55, 120]) = ([[55]], [120], 3) :=
  bod_one (n := 1) (s := 21) (hp_lit 60 (by decide +kernel)) (by decide) (by decide) (bod_no (hp_lit 60 (by decide +kernel)) (by decide))
theorem aw4_is : bodT ([120] ++ [13, 10]) = ([], [120, 13, 10], 3) := bod_no (hp_lit 60 (by decide +kernel)) (by decide)
theorem aw5_is : bodT ([120, 13, 10] ++ []) = ([], [120, 13, 10], 3) := bod_no (hp_lit 60 (by decide +kernel)) (by decide)
theorem aw6_is : bodT ([120, 13, 10] ++ [13, 10, 13, 10]) = ([], [120, 13, 10, 13, 10, 13, 10], 60) := bod_no (hp_lit 60 (by decide +kernel)) (by decide)
/-- (*Reader).Write in the chapter's examples -/
theorem awk {w0 w : World} {g : Nat} {B : List Int} (hR : ∃ v, Rd w0.heap.size w g v B false) (s : ByteArray) (Aw : Option Addr) (nw cw : Nat) (ws : List ByteArray) (hnw : ws.length = nw) (hw : Kd.C Kd.string w Aw ws.length ws) (hcw : ws.length ≤ cw) (hwl : ∀ ad, Aw = some ad → ∃ cells, w.heap[ad.block]? = some (.cells cells 9 (0, 0)))
    (hT : TAB w0) (hB : Below w0.heap.size w0 w) (l : List Int) (hs : bytesOf s = l) (hby : Byt (B ++ l)) (hsz : (B ++ l).length ≤ 1000000) (bs : List (List Int)) (left : List Int) (hbod : bodT (B ++ l) = (bs, left, 3)) (hws : bs.map strOfNums = ws) (hc1 : bs.length ≤ 1000000) :
    Calls Tryd.prog 32 #[.pointer (some ⟨g, 0, none⟩), .string s, .slice Aw nw cw] w fun e w' => e = .returned (.bool true) ∧ (∃ v', Rd w0.heap.size w' g v' left false) ∧ Below w0.heap.size w0 w' := by
  subst hs hnw
  obtain ⟨v, hR⟩ := hR
  refine (writes_calls hR s Aw cw ws hw hcw hwl hT hB hby hsz bs left hbod hws hc1).mono ?_
  rintro e w' ⟨h1, v', h2, h3⟩
  exact ⟨h1, ⟨v', h2⟩, h3⟩
theorem C_str1 (w : World) (u : ByteArray) : Kd.C Kd.string (w.alloc (.cells #[.string u] 9)) (some ⟨w.heap.size, 0, none⟩) [u].length [u] ∧ ∀ ad, (some ⟨w.heap.size, 0, none⟩ : Option Addr) = some ad → ∃ cells, (w.alloc (.cells #[.string u] 9)).heap[ad.block]? = some (.cells cells 9 (0, 0)) := by
  have hb := heap_alloc_new w (.cells #[.string u] 9)
  refine ⟨⟨rfl, by simp, fun _ => ⟨⟨w.heap.size, 0, none⟩, rfl, fun j x hx => ?_⟩⟩, fun ad e => by cases e; exact ⟨_, hb⟩⟩
  cases j with
  | zero =>
    cases hx
    refine ⟨[.string u], rfl, rfl, fun i v hv => ?_⟩
    cases i with
    | zero => cases hv; exact blk_cell hb 0
    | succ i => cases hv
  | succ j => cases hx
theorem C_str0 (w : World) : Kd.C Kd.string w none ([] : List ByteArray).length [] := ⟨rfl, by decide, fun h => absurd h (by decide)⟩
theorem new_calls (w : World) : Calls Tryd.prog 11 #[] w fun e w' => e = .returned (.pointer (some ⟨w.heap.size, 0, none⟩)) ∧ w' = w.alloc (.cells #[.slice none 0 0, .bool true, .bool false] 57) := by
  go_enter Tryd.func11, Tryd.ntmps11
  go_wp2
  go_ret
  exact ⟨rfl, rfl⟩
/-- a reader that goes on -/
def RdE (w0 w : World) (g : Nat) (B : List Int) : Prop := ∃ v, Rd w0.heap.size w g v B false
theorem RdE.below {w0 w w' : World} {g : Nat} {B : List Int} (h : RdE w0 w g B) (hb : Below w.heap.size w w') : RdE w0 w' g B := by
  obtain ⟨v, h⟩ := h
  exact ⟨v, h.below hb⟩
theorem RdE.new {w0 w : World} (hB : Below w0.heap.size w0 w) : RdE w0 (w.alloc (.cells #[.slice none 0 0, .bool true, .bool false] 57)) w.heap.size [] := ⟨_, heap_alloc_new w _, Kd.R_nil _ _ _ _ _, hB.size⟩
theorem leftE {w0 w : World} {g : Nat} {B : List Int} (h : RdE w0 w g B) (n : Nat) (hn : B.length = n) : Calls Tryd.prog 17 #[.pointer (some ⟨g, 0, none⟩)] w fun e w' => e = .returned (.int .i64 n) ∧ w = w' := by
  obtain ⟨v, h⟩ := h
  subst hn
  exact left_calls h
theorem closedE {w0 w : World} {g : Nat} {B : List Int} (h : RdE w0 w g B) : Calls Tryd.prog 19 #[.pointer (some ⟨g, 0, none⟩)] w fun e w' => e = .returned (.bool false) ∧ w = w' := by
  obtain ⟨v, h⟩ := h
  exact closed_calls h
/-- a reader that is closed -/
def RdC (w0 w : World) (g : Nat) : Prop := ∃ v, Rd w0.heap.size w g v [] true
theorem RdC.below {w0 w w' : World} {g : Nat} (h : RdC w0 w g) (hb : Below w.heap.size w w') : RdC w0 w' g := by
  obtain ⟨v, h⟩ := h
  exact ⟨v, h.below hb⟩
theorem leftC {w0 w : World} {g : Nat} (h : RdC w0 w g) : Calls Tryd.prog 17 #[.pointer (some ⟨g, 0, none⟩)] w fun e w' => e = .returned (.int .i64 0) ∧ w = w' := by
  obtain ⟨v, h⟩ := h
  exact left_calls h
theorem closedC {w0 w : World} {g : Nat} (h : RdC w0 w g) : Calls Tryd.prog 19 #[.pointer (some ⟨g, 0, none⟩)] w fun e w' => e = .returned (.bool true) ∧ w = w' := by
  obtain ⟨v, h⟩ := h
  exact closed_calls h
theorem closeE {w0 w : World} {g : Nat} {B : List Int} (h : RdE w0 w g B) (A : Option Addr) (n c : Nat) (l : List Int) (hn : l.length = n) (hl : Kd.C (Kd.int .u8) w A n l) (hc : n ≤ c) (hT : TAB w0) (hB : Below w0.heap.size w0 w)
    (hby : Byt (B ++ l)) (hsz : (B ++ l).length ≤ 140737488351232) (left : List Int) (er : Int) (hbod : bodT (B ++ l) = ([], left, er)) (he : er ≠ 3) :
    Calls Tryd.prog 14 #[.pointer (some ⟨g, 0, none⟩), .slice A n c] w fun e w' => ∃ Ao co, e = .returned (.tuple #[.slice Ao 0 co, .int .i64 er]) ∧ RdC w0 w' g ∧ Below w0.heap.size w0 w' := by
  obtain ⟨v, h⟩ := h
  refine (write_walk h A n c l hn hl hc hT hB hby hsz [] left er hbod (by simp)).mono ?_
  rintro e w' ⟨vo, v', rfl, h1, h2, _, h3, _⟩
  rw [if_neg he, decide_eq_true he] at h2
  rw [if_neg he]
  obtain ⟨Ao, co, rfl⟩ := Kd.R_slice h1
  exact ⟨Ao, co, rfl, ⟨v', h2⟩, h3⟩
theorem writeC {w0 w : World} {g : Nat} (h : RdC w0 w g) (A : Value) : Calls Tryd.prog 14 #[.pointer (some ⟨g, 0, none⟩), A] w fun e w' => e = .returned (.tuple #[.slice none 0 0, .int .i64 70]) ∧ Below w.heap.size w w' := by
  obtain ⟨v, h⟩ := h
  exact write_closed h A
theorem byt_lit {l : List Int} (h : fitsB l = true) : Byt l := fits_of h
theorem newE {w0 w : World} (hB : Below w0.heap.size w0 w) : Calls Tryd.prog 11 #[] w fun e w' => ∃ g, e = .returned (.pointer (some ⟨g, 0, none⟩)) ∧ RdE w0 w' g [] ∧ Below w0.heap.size w0 w' ∧ Below w.heap.size w w' ∧ w.heap.size ≤ g :=
  (new_calls w).mono fun e w' ⟨h1, h2⟩ => ⟨_, h1, by rw [h2]; exact RdE.new hB, by rw [h2]; exact below_alloc hB _, by rw [h2]; exact below_alloc (Below.refl _ w) _, Nat.le_refl _⟩
theorem left10 {w0 w : World} {g : Nat} (h : RdE w0 w g aw1l) : Calls Tryd.prog 17 #[.pointer (some ⟨g, 0, none⟩)] w fun e w' => e = .returned (.int .i64 10) ∧ w = w' := leftE h 10 rfl
theorem left1 {w0 w : World} {g : Nat} (h : RdE w0 w g [120]) : Calls Tryd.prog 17 #[.pointer (some ⟨g, 0, none⟩)] w fun e w' => e = .returned (.int .i64 1) ∧ w = w' := leftE h 1 rfl
theorem awc1 {w0 w : World} {g : Nat} (h : RdE w0 w g []) (hT : TAB w0) (hB : Below w0.heap.size w0 w) : Calls Tryd.prog 32 #[.pointer (some ⟨g, 0, none⟩), .string ⟨#[67, 111, 110, 116, 101, 110, 116, 45, 76, 101, 110, 103, 116, 104, 58, 32, 50, 13, 10, 13, 10, 123, 125, 67, 111, 110, 116, 101, 110, 116, 45, 76, 101]⟩, .slice (some ⟨w.heap.size, 0, none⟩) 1 1] (w.alloc (.cells #[.string ⟨#[123, 125]⟩] 9)) fun e w' => e = .returned (.bool true) ∧ RdE w0 w' g aw1l ∧ Below w0.heap.size w0 w' :=
  awk (h.below (below_alloc (Below.refl _ _) _)) _ _ 1 1 [⟨#[123, 125]⟩] rfl (C_str1 _ _).1 (by decide) (C_str1 _ _).2 hT (below_alloc hB _) aw1 rfl (byt_lit (by decide +kernel)) (by decide) _ _ aw1_is (by decide +kernel) (by decide)
theorem awc2 {w0 w : World} {g : Nat} (h : RdE w0 w g aw1l) (hT : TAB w0) (hB : Below w0.heap.size w0 w) : Calls Tryd.prog 32 #[.pointer (some ⟨g, 0, none⟩), .string ⟨#[110, 103, 116, 104, 58, 32, 49, 13, 10, 13, 10]⟩, .slice none 0 0] w fun e w' => e = .returned (.bool true) ∧ RdE w0 w' g (aw1l ++ aw2) ∧ Below w0.heap.size w0 w' :=
  awk h _ none 0 0 [] rfl (C_str0 _) (by decide) (fun _ e => by cases e) hT hB aw2 rfl (byt_lit (by decide +kernel)) (by decide) _ _ aw2_is rfl (by decide)
theorem awc3 {w0 w : World} {g : Nat} (h : RdE w0 w g (aw1l ++ aw2)) (hT : TAB w0) (hB : Below w0.heap.size w0 w) : Calls Tryd.prog 32 #[.pointer (some ⟨g, 0, none⟩), .string ⟨#[55, 120]⟩, .slice (some ⟨w.heap.size, 0, none⟩) 1 1] (w.alloc (.cells #[.string ⟨#[55]⟩] 9)) fun e w' => e = .returned (.bool true) ∧ RdE w0 w' g [120] ∧ Below w0.heap.size w0 w' :=
  awk (h.below (below_alloc (Below.refl _ _) _)) _ _ 1 1 [⟨#[55]⟩] rfl (C_str1 _ _).1 (by decide) (C_str1 _ _).2 hT (below_alloc hB _) [55, 120] rfl (byt_lit (by decide +kernel)) (by decide) _ _ aw3_is (by decide +kernel) (by decide)
theorem awc4 {w0 w : World} {g : Nat} (h : RdE w0 w g [120]) (hT : TAB w0) (hB : Below w0.heap.size w0 w) : Calls Tryd.prog 32 #[.pointer (some ⟨g, 0, none⟩), .string ⟨#[13, 10]⟩, .slice none 0 0] w fun e w' => e = .returned (.bool true) ∧ RdE w0 w' g [120, 13, 10] ∧ Below w0.heap.size w0 w' :=
  awk h _ none 0 0 [] rfl (C_str0 _) (by decide) (fun _ e => by cases e) hT hB [13, 10] rfl (byt_lit (by decide +kernel)) (by decide) _ _ aw4_is rfl (by decide)
theorem awc5 {w0 w : World} {g : Nat} (h : RdE w0 w g [120, 13, 10]) (hT : TAB w0) (hB : Below w0.heap.size w0 w) : Calls Tryd.prog 32 #[.pointer (some ⟨g, 0, none⟩), .string ⟨#[]⟩, .slice none 0 0] w fun e w' => e = .returned (.bool true) ∧ RdE w0 w' g [120, 13, 10] ∧ Below w0.heap.size w0 w' :=
  awk h _ none 0 0 [] rfl (C_str0 _) (by decide) (fun _ e => by cases e) hT hB [] rfl (byt_lit (by decide +kernel)) (by decide) _ _ aw5_is rfl (by decide)
theorem awc6 {w0 w : World} {g : Nat} (h : RdE w0 w g [120, 13, 10]) (hT : TAB w0) (hB : Below w0.heap.size w0 w) : Calls Tryd.prog 14 #[.pointer (some ⟨g, 0, none⟩), .slice (some ⟨w.heap.size, 0, none⟩) 4 4] (w.alloc (.cells #[.int .u8 13, .int .u8 10, .int .u8 13, .int .u8 10] 5 (4, 5))) fun e w' => ∃ Ao co, e = .returned (.tuple #[.slice Ao 0 co, .int .i64 60]) ∧ RdC w0 w' g ∧ Below w0.heap.size w0 w' :=
  closeE (h.below (below_alloc (Below.refl _ _) _)) _ 4 4 [13, 10, 13, 10] rfl (lit_V w 5 [13, 10, 13, 10] (by decide) (4, 5)) (by decide) hT (below_alloc hB _) (byt_lit (by decide +kernel)) (by decide) _ 60 aw6_is (by decide)
set_option maxRecDepth 100000 in
set_option maxHeartbeats 4000000 in
theorem awake_calls {w0 w : World} (hT : TAB w0) (hB : Below w0.heap.size w0 w) : Calls Tryd.prog 21 #[] w fun e w' => e = .returned (.bool true) ∧ Below w0.heap.size w0 w' := by
  have HT := Aside0.mk hT
  have HB := Aside0.mk hB
  have kc := fun (w : World) (C : Array Value) (n c : Nat) => Lib.run_convert_bytes_const (P := Tryd.prog) w 27 5 C n c Tryd.underlying27 Tryd.underlying5
  clear hT hB
  go_enter Tryd.func21, Tryd.ntmps21
  go_wp2_with (first
    | (go_at_call 11; (with_reducible refine (newE HB.out).mono ?_); rintro e wn ⟨g, rfl, r_, b_, _, _⟩; have R0 := Aside0.mk r_; have B0 := Aside0.mk b_; clear r_ b_)
    | (go_at_call 32; (with_reducible refine (awc1 R0.out HT.out B0.out).mono ?_); rintro e w1 ⟨rfl, r_, b_⟩; have R1 := Aside0.mk r_; have B1 := Aside0.mk b_; clear r_ b_)
    | (go_at_call 17; (with_reducible refine (left10 R1.out).mono ?_); rintro e w_ ⟨rfl, rfl⟩)
    | (go_at_call 32; (with_reducible refine (awc2 R1.out HT.out B1.out).mono ?_); rintro e w2 ⟨rfl, r_, b_⟩; have R2 := Aside0.mk r_; have B2 := Aside0.mk b_; clear r_ b_)
    | (go_at_call 32; (with_reducible refine (awc3 R2.out HT.out B2.out).mono ?_); rintro e w3 ⟨rfl, r_, b_⟩; have R3 := Aside0.mk r_; have B3 := Aside0.mk b_; clear r_ b_)
    | (go_at_call 17; (with_reducible refine (left1 R3.out).mono ?_); rintro e w_ ⟨rfl, rfl⟩)
    | (go_at_call 32; (with_reducible refine (awc4 R3.out HT.out B3.out).mono ?_); rintro e w4 ⟨rfl, r_, b_⟩; have R4 := Aside0.mk r_; have B4 := Aside0.mk b_; clear r_ b_)
    | (go_at_call 32; (with_reducible refine (awc5 R4.out HT.out B4.out).mono ?_); rintro e w5 ⟨rfl, r_, b_⟩; have R5 := Aside0.mk r_; have B5 := Aside0.mk b_; clear r_ b_)
    | (go_at_call 19; (with_reducible refine (closedE R5.out).mono ?_); rintro e w_ ⟨rfl, rfl⟩)
    | (go_at_call 14; (with_reducible refine (awc6 R5.out HT.out B5.out).mono ?_); rintro e w6 ⟨Ao, co, rfl, r_, b_⟩; have R6 := Aside0.mk r_; have B6 := Aside0.mk b_; clear r_ b_)
    | (go_at_call 14; (with_reducible refine (writeC R6.out _).mono ?_); rintro e w7 ⟨rfl, b_⟩; have R7 := Aside0.mk (R6.out.below b_); have B7 := Aside0.mk (B6.out.trans (b_.mono B6.out.size)); clear b_)
    | (go_at_call 19; (with_reducible refine (closedC R7.out).mono ?_); rintro e w_ ⟨rfl, rfl⟩)
    | (go_at_call 17; (with_reducible refine (leftC R7.out).mono ?_); rintro e w_ ⟨rfl, rfl⟩))
  go_ret
  exact ⟨rfl, B7.out⟩
end Go.Proofs.YthkmacgjekienaaDoor.P
