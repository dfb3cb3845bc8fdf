/- Plain definitions and lemmas: the scores of a play. No condition. · Contracts: the reference's premiums, the scores of letters, the factor of a word. For valid boards and tile sets. · Contracts: the reference's words across with the row in which they begin; the scores of the letters of a play. For valid boards, plays and tile sets. · Contracts: the reference's scores of the words that a play forms. For valid boards, plays and tile sets. · Contracts: the reference's score of a play; its ScoreParts and ScorePlay. No condition but that lengths fit an int. · Contracts: the reference's ScorePlay and ScoreParts. No condition but that lengths fit an int. -/
import Derived.Test.YtjdcdhhbgijaoaaGreatDoorPlbF
import Derived.Test.YtjdcdhhbgijaoaaGreatDoorTiC
import Derived.Test.YtjdcdhhbgijaoaaGreatDoorPlaD
import Derived.Test.YtjdcdhhbgijaoaaGreatDoorVar
import Derived.Deep.DeepMust
import Derived.Deep.RegionLaw
namespace Go.Proofs.YtjdcdhhbgijaoaaGreatDoor
open Go.ChangeShapes Go.WideShapes Go.ChangeAt Go.RowKit Go.Sort

/-- a letter's value on a premium -/
def letS (v : Int) (pr : UInt8) : Int := if pr = 50 then 2 * v else if pr = 51 then 3 * v else v
/-- a word's factor by a premium -/
def facP (pr : UInt8) : Int := if pr = 100 then 2 else if pr = 116 then 3 else 1
/-- the premiums as an across play sees them -/
def Brd.pview (b : Brd) (p : Ply) : Fl := (b.flat p.down).prm
def sumTo (f : Nat → Int) (k : Nat) : Int := ((List.range k).map f).sum
theorem sumTo_zero (f : Nat → Int) : sumTo f 0 = 0 := rfl
theorem sumTo_succ (f : Nat → Int) (k : Nat) : sumTo f (k + 1) = sumTo f k + f k := by
  unfold sumTo
  rw [List.range_succ, List.map_append, List.sum_append]
  simp
theorem sumTo_range {f : Nat → Int} {B : Int} {k : Nat} (h : ∀ i, i < k → 0 ≤ f i ∧ f i ≤ B) : 0 ≤ sumTo f k ∧ sumTo f k ≤ B * k := by
  induction k with
  | zero => rw [sumTo_zero]; simp
  | succ k ih =>
    have h1 := ih (fun i hi => h i (by omega))
    have h2 := h k (by omega)
    rw [sumTo_succ]
    push_cast
    rw [Int.mul_add, Int.mul_one]
    omega
theorem sumTo_congr {f g : Nat → Int} {k : Nat} (h : ∀ i, i < k → f i = g i) : sumTo f k = sumTo g k := by
  unfold sumTo
  rw [List.map_congr_left fun i hi => h i (List.mem_range.1 hi)]
theorem letS_range {v : Int} {pr : UInt8} (h : 0 ≤ v ∧ v ≤ 20) : 0 ≤ letS v pr ∧ letS v pr ≤ 60 := by
  unfold letS
  split
  · omega
  · split <;> omega
theorem facP_range (pr : UInt8) : 1 ≤ facP pr ∧ facP pr ≤ 3 := by
  unfold facP
  split
  · omega
  · split <;> omega
/-- the score of a letter of the main word -/
def letA (x : Tls) (F G : Fl) (R C : Int) (l : List UInt8) (i : Nat) : Int := if F R (C + i) = 46 then letS (x.val (l.getD i 0)) (G R (C + i)) else x.val (l.getD i 0)
theorem letA_range {x : Tls} (h : x.Good) (F G : Fl) (R C : Int) (l : List UInt8) (i : Nat) : 0 ≤ letA x F G R C l i ∧ letA x F G R C l i ≤ 60 := by
  have := h.val_range (l.getD i 0)
  unfold letA
  split
  · exact letS_range this
  · omega
def lettersA (x : Tls) (F G : Fl) (R C : Int) (l : List UInt8) (k : Nat) : List Int := (List.range k).map (letA x F G R C l)
theorem lettersA_snoc (x : Tls) (F G : Fl) (R C : Int) (l : List UInt8) (k : Nat) : lettersA x F G R C l (k + 1) = lettersA x F G R C l k ++ [letA x F G R C l k] := by
  unfold lettersA
  rw [List.range_succ, List.map_append]
  rfl
theorem lettersA_len (x : Tls) (F G : Fl) (R C : Int) (l : List UInt8) (k : Nat) : (lettersA x F G R C l k).length = k := by simp [lettersA]
/-- the factor of the main word -/
def facA (G : Fl) (R C : Int) (is : List Nat) : Int := (is.map fun i : Nat => facP (G R (C + i))).foldl (fun a c => a * c) 1
theorem facA_nil (G : Fl) (R C : Int) : facA G R C [] = 1 := rfl
theorem facA_snoc (G : Fl) (R C : Int) (is : List Nat) (i : Nat) : facA G R C (is ++ [i]) = facA G R C is * facP (G R (C + i)) := by
  unfold facA
  rw [List.map_append, List.foldl_append]
  rfl
theorem facA_range (G : Fl) (R C : Int) : ∀ is : List Nat, 1 ≤ facA G R C is.reverse ∧ facA G R C is.reverse ≤ 3 ^ is.length
  | [] => by simp [facA_nil]
  | i :: is => by
    have ih := facA_range G R C is
    have h1 := facP_range (G R (C + i))
    rw [List.reverse_cons, facA_snoc, List.length_cons, Int.pow_succ]
    refine ⟨?_, ?_⟩
    · have := Int.mul_le_mul ih.1 h1.1 (by omega) (by omega)
      omega
    · exact Int.mul_le_mul ih.2 h1.2 (by omega) (by omega)
theorem facA_le (G : Fl) (R C : Int) {is : List Nat} (h : is.length ≤ 12) : 1 ≤ facA G R C is ∧ facA G R C is ≤ 531441 := by
  have h1 := facA_range G R C is.reverse
  rw [List.reverse_reverse, List.length_reverse] at h1
  refine ⟨h1.1, ?_⟩
  have h2 : (3 : Int) ^ is.length ≤ 3 ^ 12 := by
    have h3 : (3 : Nat) ^ is.length ≤ 3 ^ 12 := Nat.pow_le_pow_right (by omega) h
    exact_mod_cast h3
  have h4 : (3 : Int) ^ 12 = 531441 := by decide
  omega
/-- the score of a letter of a word across: at u the letter that is placed, worth s -/
def croA (x : Tls) (W : List UInt8) (u : Nat) (s : Int) (j : Nat) : Int := if j = u then s else x.val (W.getD j 0)
theorem croA_range {x : Tls} (h : x.Good) {W : List UInt8} {u : Nat} {s : Int} (hs : 0 ≤ s ∧ s ≤ 60) (j : Nat) : 0 ≤ croA x W u s j ∧ croA x W u s j ≤ 60 := by
  have := h.val_range (W.getD j 0)
  unfold croA
  split <;> omega
/-- the score of a word across, ahead of its factor -/
def crossSum (x : Tls) (F G : Fl) (R C : Int) (l : List UInt8) (i : Nat) : Int :=
  sumTo (croA x (crossW F R (C + i) (l.getD i 0)) (upL F (C + i) 16 (R - 1)).length (letS (x.val (l.getD i 0)) (G R (C + i)))) (crossW F R (C + i) (l.getD i 0)).length
def partA (x : Tls) (F G : Fl) (R C : Int) (l : List UInt8) (i : Nat) : Int := crossSum x F G R C l i * facP (G R (C + i))
theorem crossSum_range {x : Tls} (h : x.Good) (F G : Fl) (R C : Int) (l : List UInt8) (i : Nat) : 0 ≤ crossSum x F G R C l i ∧ crossSum x F G R C l i ≤ 1980 := by
  have h1 := sumTo_range (k := (crossW F R (C + i) (l.getD i 0)).length) (fun j _ => croA_range h (W := crossW F R (C + i) (l.getD i 0)) (u := (upL F (C + i) 16 (R - 1)).length) (letS_range (pr := G R (C + i)) (h.val_range (l.getD i 0))) j)
  have h2 := crossW_len F R (C + i) (l.getD i 0)
  unfold crossSum
  omega
theorem partA_range {x : Tls} (h : x.Good) (F G : Fl) (R C : Int) (l : List UInt8) (i : Nat) : 0 ≤ partA x F G R C l i ∧ partA x F G R C l i ≤ 5940 := by
  have h1 := crossSum_range h F G R C l i
  have h2 := facP_range (G R (C + i))
  unfold partA
  refine ⟨Int.mul_nonneg h1.1 (by omega), ?_⟩
  have := Int.mul_le_mul h1.2 h2.2 (by omega) (by omega)
  omega
/-- the words across that score -/
def scoring (F : Fl) (R C : Int) (l : List UInt8) (is : List Nat) : List Nat := is.filter fun i => decide (1 < (crossW F R (C + i) (l.getD i 0)).length)
theorem scoring_len (F : Fl) (R C : Int) (l : List UInt8) (is : List Nat) : (scoring F R C l is).length ≤ is.length := List.length_filter_le _ _
def partsA (x : Tls) (F G : Fl) (R C : Int) (l : List UInt8) (is : List Nat) : List Int := (scoring F R C l is).map (partA x F G R C l)
theorem partsA_snoc (x : Tls) (F G : Fl) (R C : Int) (l : List UInt8) (is : List Nat) (i : Nat) : partsA x F G R C l (is ++ [i]) = partsA x F G R C l is ++ if 1 < (crossW F R (C + i) (l.getD i 0)).length then [partA x F G R C l i] else [] := by
  unfold partsA scoring
  rw [List.filter_append, List.map_append]
  congr 1
  simp only [List.filter_cons, List.filter_nil, decide_eq_true_eq]
  split <;> rfl
theorem partsA_len (x : Tls) (F G : Fl) (R C : Int) (l : List UInt8) (is : List Nat) : (partsA x F G R C l is).length ≤ is.length := by
  unfold partsA
  rw [List.length_map]
  exact scoring_len F R C l is
/-- the score of the main word -/
def mainA (x : Tls) (F G : Fl) (R C : Int) (l : List UInt8) (k : Nat) (is : List Nat) : Int := sumTo (letA x F G R C l) k * facA G R C is
theorem mainA_range {x : Tls} (h : x.Good) (F G : Fl) (R C : Int) (l : List UInt8) {k : Nat} {is : List Nat} (hk : k ≤ 12) (hi : is.length ≤ 12) : 0 ≤ mainA x F G R C l k is ∧ mainA x F G R C l k is ≤ 382637520 := by
  have h1 := sumTo_range (k := k) (fun j _ => letA_range h F G R C l j)
  have h2 := facA_le G R C hi
  unfold mainA
  refine ⟨Int.mul_nonneg h1.1 (by omega), ?_⟩
  have := Int.mul_le_mul (show sumTo (letA x F G R C l) k ≤ 720 by omega) h2.2 (by omega) (by omega)
  omega
def Brd.parts (b : Brd) (p : Ply) (x : Tls) : List Int :=
  mainA x (b.view p) (b.pview p) p.r p.c p.word.data.toList p.word.size (b.fresh p) :: partsA x (b.view p) (b.pview p) p.r p.c p.word.data.toList (b.fresh p)
def Brd.score (b : Brd) (p : Ply) (x : Tls) : Int := (b.parts p x).sum + if (b.fresh p).length = 7 then 50 else 0
theorem parts_len (b : Brd) (p : Ply) (x : Tls) : (b.parts p x).length ≤ (b.fresh p).length + 1 := by
  unfold Brd.parts
  have := partsA_len x (b.view p) (b.pview p) p.r p.c p.word.data.toList (b.fresh p)
  simp only [List.length_cons]
  omega
end Go.Proofs.YtjdcdhhbgijaoaaGreatDoor

namespace Go.Proofs.YtjdcdhhbgijaoaaGreatDoor
open Go.ChangeShapes Go.WideShapes Go.ChangeAt Go.RowKit Go.Sort

theorem Brd.Good.prm_in {b : Brd} {n : Nat} (h : b.Good n) {i j q : Nat} (hq : q = i * n) (hl : q + j < b.premium.size) : b.prm i j = b.premium[q + j] := by
  subst hq
  unfold Brd.prm
  rw [h.size]
  have e : ((i : Int) * (n : Int) + (j : Int)).toNat = i * n + j := by
    rw [← Int.natCast_mul, ← Int.natCast_add, Int.toNat_natCast]
  rw [e]
  exact byte_getD hl
set_option maxHeartbeats 2000000 in
theorem l13Premium_any (b : Brd) (n : Nat) (r c : Int) (g o : Nat) (w : World) (hb : b.Good n) (hg : BAt w g o b) (hi : b.inB r c = true) :
    Calls Tryz.prog 99 #[.pointer (some ⟨g, o, none⟩), .int .i64 r, .int .i64 c] w fun e w' => e = .returned (.int .u8 ((b.prm r c).toNat : Int)) ∧ Drew w w' := by
  obtain ⟨i, j, q, rfl, rfl, hq, hqi, hl, hlt, hin, hjn, _⟩ := hb.place hi
  have hl2 : q + j < b.premium.size := by rw [hb.prem, ← hb.cells]; exact hl
  have HX := Lib.hid (hb.prm_in hq hl2)
  obtain ⟨g0, g1, g2⟩ := hg
  rw [hb.size] at g0
  have h15 := hb.hi
  clear hb hi hq hl g2
  go_enter Tryz.func99, Tryz.ntmps99
  go_wp2_with fail
  have w1 : IntKind.i64.wrap (q : Int) = q := IntWalk.i64_in _ (by omega)
  have w2 : IntKind.i64.wrap ((q : Int) + (j : Int)) = (q : Int) + j := IntWalk.i64_in _ (by omega)
  have w3 : ((q : Int) + (j : Int)).toNat = q + j := by omega
  have w4 : (0 : Int) ≤ (q : Int) + (j : Int) := by omega
  have w5 : (q : Int) + (j : Int) < (b.premium.size : Int) := by omega
  go_quiet (fail)
  clear w1 w2
  go_wp2
  go_ret
  exact ⟨by rw [HX.out]; rfl, ⟨_, rfl⟩⟩
theorem letS_2 {v : Int} {p : UInt8} (h : ((p.toNat : Int) == 50) = true) : letS v p = 2 * v := by
  have : p = 50 := UInt8.toNat_inj.1 (show p.toNat = 50 by simp at h; omega)
  unfold letS; rw [if_pos this]
theorem letS_3 {v : Int} {p : UInt8} (_h0 : ((p.toNat : Int) == 50) = false) (h : ((p.toNat : Int) == 51) = true) : letS v p = 3 * v := by
  have : p = 51 := UInt8.toNat_inj.1 (show p.toNat = 51 by simp at h; omega)
  unfold letS; rw [if_neg (by rw [this]; decide), if_pos this]
theorem letS_1 {v : Int} {p : UInt8} (h0 : ((p.toNat : Int) == 50) = false) (h : ((p.toNat : Int) == 51) = false) : letS v p = v := by
  unfold letS; rw [if_neg (fun e => by subst e; simp at h0), if_neg (fun e => by subst e; simp at h)]
theorem facP_2 {p : UInt8} (h : ((p.toNat : Int) == 100) = true) : facP p = 2 := by
  have : p = 100 := UInt8.toNat_inj.1 (show p.toNat = 100 by simp at h; omega)
  unfold facP; rw [if_pos this]
theorem facP_3 {p : UInt8} (_h0 : ((p.toNat : Int) == 100) = false) (h : ((p.toNat : Int) == 116) = true) : facP p = 3 := by
  have : p = 116 := UInt8.toNat_inj.1 (show p.toNat = 116 by simp at h; omega)
  unfold facP; rw [if_neg (by rw [this]; decide), if_pos this]
theorem facP_1 {p : UInt8} (h0 : ((p.toNat : Int) == 100) = false) (h : ((p.toNat : Int) == 116) = false) : facP p = 1 := by
  unfold facP; rw [if_neg (fun e => by subst e; simp at h0), if_neg (fun e => by subst e; simp at h)]
set_option maxHeartbeats 2000000 in
theorem l13Letter_any (x : Tls) (q : TlA) (tg : Nat) (b : Brd) (n : Nat) (r c : Int) (y : UInt8) (g o : Nat) (w : World) (ht : TAt w tg x q) (hx : x.Good) (hb : b.Good n) (hg : BAt w g o b) (hi : b.inB r c = true) :
    Calls Tryz.prog 188 #[.pointer (some ⟨tg, 0, none⟩), .pointer (some ⟨g, o, none⟩), .int .i64 r, .int .i64 c, .int .u8 (y.toNat : Int)] w fun e w' => e = .returned (.int .i64 (letS (x.val y) (b.prm r c))) ∧ Drew w w' := by
  have HV := Lib.hid (l02Value_any x q tg y w ht hx)
  have HP := Lib.hid (l13Premium_any b n r c g o w hb hg hi)
  have hv := hx.val_range y
  clear ht hx hb hg hi
  generalize x.val y = v at *
  generalize b.prm r c = pr at *
  have w2 : IntKind.i64.wrap (2 * v) = 2 * v := IntWalk.i64_in _ (by omega)
  have w3 : IntKind.i64.wrap (3 * v) = 3 * v := IntWalk.i64_in _ (by omega)
  cases e1 : ((pr.toNat : Int) == 50) with
  | true =>
    have HE := Lib.hid (letS_2 (v := v) e1)
    go_enter Tryz.func188, Tryz.ntmps188
    go_wp2_with fail
    refine (HV.out).mono ?_
    rintro e w' ⟨rfl, rfl⟩
    go_wp2_with fail
    refine (HP.out).mono ?_
    rintro e w'' ⟨rfl, hd⟩
    go_wp2
    go_ret
    exact ⟨by rw [HE.out]; rfl, hd⟩
  | false =>
    cases e2 : ((pr.toNat : Int) == 51) with
    | true =>
      have HE := Lib.hid (letS_3 (v := v) e1 e2)
      go_enter Tryz.func188, Tryz.ntmps188
      go_wp2_with fail
      refine (HV.out).mono ?_
      rintro e w' ⟨rfl, rfl⟩
      go_wp2_with fail
      refine (HP.out).mono ?_
      rintro e w'' ⟨rfl, hd⟩
      go_wp2
      go_ret
      exact ⟨by rw [HE.out]; rfl, hd⟩
    | false =>
      have HE := Lib.hid (letS_1 (v := v) e1 e2)
      go_enter Tryz.func188, Tryz.ntmps188
      go_wp2_with fail
      refine (HV.out).mono ?_
      rintro e w' ⟨rfl, rfl⟩
      go_wp2_with fail
      refine (HP.out).mono ?_
      rintro e w'' ⟨rfl, hd⟩
      go_wp2
      go_ret
      exact ⟨by rw [HE.out]; rfl, hd⟩
set_option maxHeartbeats 2000000 in
theorem l13Factor_any (b : Brd) (n : Nat) (r c : Int) (g o : Nat) (w : World) (hb : b.Good n) (hg : BAt w g o b) (hi : b.inB r c = true) :
    Calls Tryz.prog 190 #[.pointer (some ⟨g, o, none⟩), .int .i64 r, .int .i64 c] w fun e w' => e = .returned (.int .i64 (facP (b.prm r c))) ∧ Drew w w' := by
  have HP := Lib.hid (l13Premium_any b n r c g o w hb hg hi)
  clear hb hg hi
  generalize b.prm r c = pr at *
  cases e1 : ((pr.toNat : Int) == 100) with
  | true =>
    have HE := Lib.hid (facP_2 e1)
    go_enter Tryz.func190, Tryz.ntmps190
    go_wp2_with fail
    refine (HP.out).mono ?_
    rintro e w'' ⟨rfl, hd⟩
    go_wp2
    go_ret
    exact ⟨by rw [HE.out]; rfl, hd⟩
  | false =>
    cases e2 : ((pr.toNat : Int) == 116) with
    | true =>
      have HE := Lib.hid (facP_3 e1 e2)
      go_enter Tryz.func190, Tryz.ntmps190
      go_wp2_with fail
      refine (HP.out).mono ?_
      rintro e w'' ⟨rfl, hd⟩
      go_wp2
      go_ret
      exact ⟨by rw [HE.out]; rfl, hd⟩
    | false =>
      have HE := Lib.hid (facP_1 e1 e2)
      go_enter Tryz.func190, Tryz.ntmps190
      go_wp2_with fail
      refine (HP.out).mono ?_
      rintro e w'' ⟨rfl, hd⟩
      go_wp2
      go_ret
      exact ⟨by rw [HE.out]; rfl, hd⟩
set_option maxRecDepth 100000 in
set_option maxHeartbeats 4000000 in
theorem l13Main_any (f : Brd) (n : Nat) (row col : Int) (down : Bool) (s : ByteArray) (g o : Nat) (w : World) (hb0 : f.Good n) (hg : BAt w g o f) (hs : s.size ≤ 12) (hr0 : 0 ≤ row) (hr1 : row < n) (hc0 : 0 ≤ col) (hc1 : col + s.size ≤ n) :
    Calls Tryz.prog 97 #[.pointer (some ⟨g, o, none⟩), .agg #[.int .i64 row, .int .i64 col, .bool down, .string s]] w fun e w' => e = .returned (.int .i64 (facA f.prm row col (freshL f.cell row col s.size))) ∧ Below w.heap.size w w' := by
  have hn15 := hb0.hi
  have hb : Below w.heap.size w (w.alloc (.cells #[.int .i64 row, .int .i64 col, .bool down, .string s] 30)) := (Below.refl _ _).alloc (Nat.le_refl _) _
  have V0 := Lib.hid (VarAt.new w 30 [.int .i64 row, .int .i64 col, .bool down, .string s])
  have HG := Lib.hid (hg.kept hb)
  have HG0 := Lib.hid hg
  have HFR : Hid (∀ W, BAt W g o f → Calls Tryz.prog 98 #[.pointer (some ⟨g, o, none⟩), .agg #[.int .i64 row, .int .i64 col, .bool down, .string s]] W (NatsPost W (freshL f.cell row col s.size))) := Lib.hid (fun W h => l12Fresh_any f n row col down s g o W hb0 h hs hr0 hr1 hc0 hc1)
  have HFA : Hid (∀ c' W, f.inB row c' = true → BAt W g o f → Calls Tryz.prog 190 #[.pointer (some ⟨g, o, none⟩), .int .i64 row, .int .i64 c'] W fun e w' => e = .returned (.int .i64 (facP (f.prm row c'))) ∧ Drew W w') := Lib.hid (fun c' W hi h => l13Factor_any f n row c' g o W hb0 h hi)
  have HIB : Hid (∀ i : Nat, i < s.size → f.inB row (col + i) = true) := Lib.hid (fun i h => hb0.inB.2 (by omega))
  have HLT : Hid (∀ i ∈ freshL f.cell row col s.size, i < s.size) := Lib.hid (fun i h => (freshL_lt h).1)
  have hfl := freshL_len f.cell row col s.size
  have HSN := Lib.hid (facA_snoc f.prm row col)
  have HFL := Lib.hid (fun (is : List Nat) (h : is.length ≤ 12) => facA_le f.prm row col h)
  have HF0 := Lib.hid (facA_nil f.prm row col)
  clear hb0 hg
  generalize freshL f.cell row col s.size = fr at *
  generalize facA f.prm row col = fa at *
  have HR : Hid (∀ k, k < fr.length → ∃ i : Nat, i < s.size ∧ fr.take (k + 1) = fr.take k ++ [i] ∧ ∀ (W : World) gf cf, W.ownsRow w.heap.size 2 1 (.slice (some ⟨gf, 0, none⟩) fr.length cf) fr.length (fr.flatMap N64.enc) → W.cell? ⟨gf, k, none⟩ = some (.int .i64 (i : Int))) := Lib.hid (fun k h => ⟨fr[k], HLT.out _ (List.getElem_mem _), take_nat h rfl, fun W gf cf hx => row_nat hx h rfl⟩)
  go_enter Tryz.func97, Tryz.ntmps97
  go_upto_region 1 with fail
  generalize w.alloc (.cells #[.int .i64 row, .int .i64 col, .bool down, .string s] 30) = w1 at *
  have c0 := V0.out.cell (i := 0) rfl
  have c1 := V0.out.cell (i := 1) rfl
  have c2 := V0.out.cell (i := 2) rfl
  have c3 := V0.out.cell (i := 3) rfl
  go_wp2_with fail
  refine (HFR.out _ HG.out).mono ?_
  rintro e w5 ⟨gx, cx, rfl, hx0, hd⟩
  have hz := hb.size
  have HX := Lib.hid (own_mono hx0 (show w.heap.size ≤ _ by omega))
  clear hx0 c0 c1 c2 c3 HFR
  replace hb := hb.trans (hd.mono hb.size)
  replace V0 := Lib.hid (V0.out.kept hd)
  clear hd
  clear HG
  generalize hfrl : fr.length = m at *
  have HML := Lib.hid hfrl
  clear hfrl
  go_wp2_with fail
  go_loopw [6, 7] (fun ov iv wr => ∃ (k : Nat) (t : Int), k ≤ m ∧ iv = .int .i64 k ∧ ov = .int .i64 t ∧ 1 ≤ t ∧ t ≤ 531441 ∧ Hid (t = fa (fr.take k)) ∧ Hid (wr.ownsRow w.heap.size 2 1 (.slice (some ⟨gx, 0, none⟩) m cx) m (fr.flatMap N64.enc)) ∧ Hid (VarAt wr w.heap.size 30 [.int .i64 row, .int .i64 col, .bool down, .string s]) ∧ Below w.heap.size w wr) (fun _ iv _ => m - (intOf iv).toNat)
  case atStart => exact ⟨0, 1, Nat.zero_le _, rfl, rfl, by omega, by omega, Lib.hid (by rw [List.take_zero, HF0.out]), HX, V0, hb⟩
  case round =>
    clear HX hb V0
    obtain ⟨k, t, hk, rfl, rfl, ht0, ht1, HT, HX, V0, hb⟩ := hrel
    by_cases hkm : k < m
    · obtain ⟨i, his, htk, hrx⟩ := HR.out k hkm
      have HTK := Lib.hid htk
      have cx0 := hrx wr _ _ HX.out
      have hin := HIB.out i his
      have HIN := Lib.hid hin
      clear hrx htk hin
      have c0 := V0.out.cell (i := 0) rfl
      have c1 := V0.out.cell (i := 1) rfl
      have hw1 : IntKind.i64.wrap (col + (i : Int)) = col + (i : Int) := IntWalk.i64_in _ (by omega)
      have hfp := facP_range (f.prm row (col + (i : Int)))
      have HT2 : Hid (fa (fr.take (k + 1)) = t * facP (f.prm row (col + (i : Int)))) := Lib.hid (by rw [HTK.out, HSN.out, HT.out])
      have hlen : (fr.take (k + 1)).length ≤ 12 := by rw [List.length_take]; have := HML.out; omega
      have hfr2 := HFL.out _ hlen
      rw [HT2.out] at hfr2
      have HC : Hid (∀ W, BAt W g o f → Calls Tryz.prog 190 #[.pointer (some ⟨g, o, none⟩), .int .i64 row, .int .i64 (col + (i : Int))] W fun e w' => e = .returned (.int .i64 (facP (f.prm row (col + (i : Int))))) ∧ Drew W w') := Lib.hid (fun W h => HFA.out _ W HIN.out h)
      generalize facP (f.prm row (col + (i : Int))) = fp at *
      have hw2 : IntKind.i64.wrap (t * fp) = t * fp := IntWalk.i64_in _ (by omega)
      clear hlen HTK HT
      go_wp2_with fail
      go_quiet ((go_at_call 190; with_reducible exact quiet_of_drew (HC.out _ ((HG0.out.kept hb).drew (Drew.times _ _)))))
      have hd : Below wr.heap.size wr (wr.drewN nq) := (show Drew wr (wr.drewN nq) from ⟨_, rfl⟩).below _
      clear c0 c1 cx0
      replace hb := hb.trans (hd.mono hb.size)
      replace HX := Lib.hid (own_below HX.out hd)
      replace V0 := Lib.hid (V0.out.kept hd)
      clear hd
      generalize wr.drewN nq = wa at *
      go_wp2
      go_roundw
      case rel => exact ⟨k + 1, t * fp, by omega, by go_num, rfl, hfr2.1, hfr2.2, Lib.hid HT2.out.symm, HX, V0, hb⟩
      case measure => simp [intOf]; omega
    · obtain rfl : k = m := by omega
      have hT := HT.out
      rw [List.take_of_length_le (by rw [HML.out]; exact Nat.le_refl _)] at hT
      have HTE := Lib.hid hT
      clear hT HT
      go_wp2
      go_ret
      exact ⟨by rw [← HTE.out]; rfl, hb⟩
end Go.Proofs.YtjdcdhhbgijaoaaGreatDoor

namespace Go.Proofs.YtjdcdhhbgijaoaaGreatDoor
open Go.ChangeShapes Go.WideShapes Go.ChangeAt Go.RowKit Go.Sort

set_option maxRecDepth 100000 in
set_option maxHeartbeats 4000000 in
theorem l12CrossR_any (f : Brd) (n : Nat) (row col : Int) (x : UInt8) (g o : Nat) (w : World) (hb0 : f.Good n) (hg : BAt w g o f) (hr0 : 0 ≤ row) (hr1 : row < n) :
    Calls Tryz.prog 187 #[.pointer (some ⟨g, o, none⟩), .int .i64 row, .int .i64 col, .int .u8 (x.toNat : Int)] w fun e w' => e = .returned (.tuple #[.string (mkB (crossW f.cell row col x)), .int .i64 (row - ((upL f.cell col 16 (row - 1)).length : Int))]) ∧ Below w.heap.size w w' := by
  obtain ⟨i0, hi0, hi1, hi2, hi3⟩ := info_parts infoByte
  have hlt := hg.lt
  have hn15 := hb0.hi
  have HFU : Hid (∀ r W, BAt W g o f → Calls Tryz.prog 200 #[.pointer (some ⟨g, o, none⟩), .int .i64 r, .int .i64 col] W fun e w' => e = .returned (.bool (fullC (f.cell r col))) ∧ Drew W w') := Lib.hid (fun r W h => l11Full_any f n r col g o W hb0 h)
  have HAT : Hid (∀ r W, BAt W g o f → f.inB r col = true → Calls Tryz.prog 192 #[.pointer (some ⟨g, o, none⟩), .int .i64 r, .int .i64 col] W fun e w' => e = .returned (.int .u8 ((f.cell r col).toNat : Int)) ∧ Drew W w') := Lib.hid (fun r W h hi => l11At_any f n r col g o W hb0 h hi)
  have HIN : Hid (∀ r, fullC (f.cell r col) = true → f.inB r col = true ∧ 0 ≤ r ∧ r < n) := Lib.hid (fun r h => by
    have h1 := hb0.full_in h
    exact ⟨h1, (hb0.inB.1 h1).1⟩)
  have hu := hb0.up_le (c := col) (r := row - 1) 16 (by omega)
  have hd0 := hb0.dn_le (c := col) (r := row + 1) 16 (by omega)
  have HU1 : Hid (∀ j : Nat, j < (upL f.cell col 16 (row - 1)).length → fullC (f.cell (row - 1 - j) col) = true) := Lib.hid (fun j h => (upL_at (F := f.cell) (c := col) 16 (row - 1) j h).2)
  have HU2 := Lib.hid (upL_end (F := f.cell) (c := col) 16 (row - 1))
  have HD2 := Lib.hid (dnL_end (F := f.cell) (c := col) 16 (row + 1))
  have HWL := Lib.hid (crossW_length f.cell row col x)
  have HW1 := Lib.hid (fun j h h2 => crossW_lo (F := f.cell) (R := row) (C := col) (x := x) (j := j) h h2)
  have HW2 := Lib.hid (fun h2 => crossW_mid (F := f.cell) (R := row) (C := col) (x := x) h2)
  have HW3 := Lib.hid (fun j h h2 => crossW_hi (F := f.cell) (R := row) (C := col) (x := x) (j := j) h h2)
  clear hb0
  generalize hux : (upL f.cell col 16 (row - 1)).length = u at *
  generalize hdx : (dnL f.cell col 16 (row + 1)).length = d at *
  generalize crossW f.cell row col x = W at *
  clear hux hdx
  generalize f.cell = F at *
  have hWl : W.length = u + 1 + d := HWL.out
  have hb : Below w.heap.size w w := Below.refl _ _
  have HG := Lib.hid hg
  clear hg
  go_enter Tryz.func187, Tryz.ntmps187
  go_wp2_with fail
  go_loopw [10] (fun iv wr => ∃ (j : Nat) (r : Int), j ≤ u ∧ r + j = row ∧ iv = .int .i64 r ∧ Hid (BAt wr g o f) ∧ Below w.heap.size w wr) (fun iv _ => (intOf iv).toNat)
  case atStart => exact ⟨0, row, Nat.zero_le _, by omega, rfl, HG, hb⟩
  case round =>
    clear HG hb
    obtain ⟨j, r, hj, hrj, rfl, HG, hb⟩ := hrel
    by_cases hju : j < u
    · have hf : fullC (F (r - 1) col) = true := by
        have := HU1.out j hju
        rwa [show row - 1 - (j : Int) = r - 1 from by omega] at this
      have hf2 := (HIN.out _ hf).2
      go_wp2_with fail
      refine (HFU.out (r - 1) _ HG.out).mono ?_
      rintro e wq ⟨rfl, hdq⟩
      have hd := hdq.bels
      clear hdq
      rw [hf]
      clear hf
      replace hb := hb.trans (hd.mono hb.size)
      replace HG := Lib.hid (HG.out.kept hd)
      clear hd
      go_wp2
      go_roundw
      case rel => exact ⟨j + 1, r - 1, by omega, by omega, by go_num, HG, hb⟩
      case measure => simp [intOf]; omega
    · obtain rfl : j = u := by omega
      have HRJ : Hid (r = row - (j : Int)) := Lib.hid (by omega)
      have hf : fullC (F (r - 1) col) = false := by
        have := HU2.out (by omega)
        rwa [show row - 1 - (j : Int) = r - 1 from by omega] at this
      go_wp2_with fail
      refine (HFU.out (r - 1) _ HG.out).mono ?_
      rintro e wq ⟨rfl, hdq⟩
      have hd := hdq.bels
      clear hdq
      rw [hf]
      clear hf
      replace hb := hb.trans (hd.mono hb.size)
      replace HG := Lib.hid (HG.out.kept hd)
      clear hd
      have HO : Hid ((wq.alloc (.cells #[] 5)).ownsRow w.heap.size 5 1 (.slice (some ⟨wq.heap.size, 0, none⟩) 0 0) 0 ((W.take 0).flatMap U8.enc)) := Lib.hid (World.ownsRow_made (base := w.heap.size) (e := 5) (size := 1) wq #[] 0 hb.size (by unfold maxLen; omega) rfl)
      have hx : Below wq.heap.size wq (wq.alloc (.cells #[] 5)) := (Below.refl _ _).alloc (Nat.le_refl _) _
      replace hb := hb.trans (hx.mono hb.size)
      replace HG := Lib.hid (HG.out.kept hx)
      clear hx
      go_wp2_with fail
      go_loopw [11, 12] (fun ov iv wr => ∃ (k g1 cap : Nat) (r : Int), k ≤ W.length ∧ r + j = row + k ∧ iv = .int .i64 r ∧ ov = .slice (some ⟨g1, 0, none⟩) k cap ∧ Hid (wr.ownsRow w.heap.size 5 1 (.slice (some ⟨g1, 0, none⟩) k cap) k ((W.take k).flatMap U8.enc)) ∧ Hid (BAt wr g o f) ∧ Below w.heap.size w wr) (fun _ iv _ => (row + 17 - intOf iv).toNat)
      case atStart => exact ⟨0, _, 0, r, Nat.zero_le _, by omega, rfl, rfl, HO, HG, hb⟩
      case round =>
        clear HO HG hb hrj
        obtain ⟨k, g1, cap, r, hk, hrk, rfl, rfl, HO, HG, hb⟩ := hrel
        by_cases hkj : k = j
        · subst hkj
          obtain rfl : r = row := by omega
          have hkl : k < W.length := by omega
          have HTK : Hid (W.take (k + 1) = W.take k ++ [x]) := Lib.hid (take_snoc hkl (HW2.out hkl))
          obtain ⟨wq, hwq⟩ : ∃ wq : World, wq = wr := ⟨_, rfl⟩
          rw [← hwq] at HO HG hb ⊢
          clear hwq
          have hd : Below wq.heap.size wq (wq.alloc (.cells #[.int .u8 ((x).toNat : Int)] 5)) := (Below.refl _ _).alloc (Nat.le_refl _) _
          have KN := Lib.hid (new_byte wq (x) 5)
          have hz2 := hb.size
          replace hb := hb.trans (hd.mono hb.size)
          replace HO := Lib.hid (own_below HO.out hd)
          replace HG := Lib.hid (HG.out.kept hd)
          clear hd
          go_wp2_with (at_builtin; go_must (refine wpList_append_lies _ rfl (.tmp 37) (.tmp 39) 22 rfl w.heap.size 5 i0 _ 1 1 Tryz.underlying22 hi0 hi1 hi2 hi3 rfl (by decide) _ (k) ((W.take k).flatMap U8.enc) (by rfl) HO.out ⟨wq.heap.size, 0, none⟩ 1 1 (U8.enc (x)) (by rfl) rfl KN.out (u8_one1 (x)) (by decide) ?c1 ?c2 ?c3 _ rfl ?_))
          case c1 => unfold maxLen; omega
          case c2 => omega
          case c3 => (first | omega | (simp only [World.size_alloc]; omega))
          intro g7 cap7 w7 hown hgr hwh hlt7
          have hb7 := hb.grown hgr hb.size (fun q e => by have := (HO.out.lt q e).1; omega)
          have HO7 : Hid (w7.ownsRow w.heap.size 5 1 (.slice (some ⟨g7, 0, none⟩) (k + 1) cap7) (k + 1) ((W.take (k + 1)).flatMap U8.enc)) := Lib.hid (by rw [HTK.out, snoc_flat U8.enc]; exact hown)
          have HG7 := Lib.hid (HG.out.grown hgr (own_ne HO.out hlt))
          clear hown hgr hwh KN HO hb HG HTK
          go_wp2
          go_roundw
          case rel => exact ⟨k + 1, g7, cap7, r + 1, by omega, by omega, by go_num, by go_num, HO7, HG7, hb7⟩
          case measure => simp [intOf]; omega
        · by_cases hkl : k < W.length
          · have hne : (r == row) = false := by simp; omega
            have hwk : W[k] = F r col ∧ fullC (F r col) = true := by
              by_cases h1 : k < j
              · have := HW1.out k h1 hkl
                rwa [show row - (j : Int) + k = r from by omega] at this
              · have := HW3.out k (by omega) hkl
                rwa [show row - (j : Int) + k = r from by omega] at this
            have hf2 := HIN.out _ hwk.2
            have HTK : Hid (W.take (k + 1) = W.take k ++ [F r col]) := Lib.hid (take_snoc hkl hwk.1)
            have hf := hwk.2
            clear hwk
            go_wp2_with fail
            refine (HFU.out r _ HG.out).mono ?_
            rintro e wq ⟨rfl, hdq⟩
            have hd := hdq.bels
            clear hdq
            rw [hf]
            clear hf
            replace hb := hb.trans (hd.mono hb.size)
            replace HO := Lib.hid (own_below HO.out hd)
            replace HG := Lib.hid (HG.out.kept hd)
            clear hd
            go_wp2_with fail
            refine (HAT.out r _ HG.out hf2.1).mono ?_
            rintro e wq ⟨rfl, hdq⟩
            have hd := hdq.bels
            clear hdq
            replace hb := hb.trans (hd.mono hb.size)
            replace HO := Lib.hid (own_below HO.out hd)
            replace HG := Lib.hid (HG.out.kept hd)
            clear hd
            generalize F r col = y at *
            have hd : Below wq.heap.size wq (wq.alloc (.cells #[.int .u8 ((y).toNat : Int)] 5)) := (Below.refl _ _).alloc (Nat.le_refl _) _
            have KN := Lib.hid (new_byte wq (y) 5)
            have hz2 := hb.size
            replace hb := hb.trans (hd.mono hb.size)
            replace HO := Lib.hid (own_below HO.out hd)
            replace HG := Lib.hid (HG.out.kept hd)
            clear hd
            go_wp2_with (at_builtin; go_must (refine wpList_append_lies _ rfl (.tmp 41) (.tmp 46) 22 rfl w.heap.size 5 i0 _ 1 1 Tryz.underlying22 hi0 hi1 hi2 hi3 rfl (by decide) _ (k) ((W.take k).flatMap U8.enc) (by rfl) HO.out ⟨wq.heap.size, 0, none⟩ 1 1 (U8.enc (y)) (by rfl) rfl KN.out (u8_one1 (y)) (by decide) ?c1 ?c2 ?c3 _ rfl ?_))
            case c1 => unfold maxLen; omega
            case c2 => omega
            case c3 => (first | omega | (simp only [World.size_alloc]; omega))
            intro g7 cap7 w7 hown hgr hwh hlt7
            have hb7 := hb.grown hgr hb.size (fun q e => by have := (HO.out.lt q e).1; omega)
            have HO7 : Hid (w7.ownsRow w.heap.size 5 1 (.slice (some ⟨g7, 0, none⟩) (k + 1) cap7) (k + 1) ((W.take (k + 1)).flatMap U8.enc)) := Lib.hid (by rw [HTK.out, snoc_flat U8.enc]; exact hown)
            have HG7 := Lib.hid (HG.out.grown hgr (own_ne HO.out hlt))
            clear hown hgr hwh KN HO hb HG HTK
            go_wp2
            go_roundw
            case rel => exact ⟨k + 1, g7, cap7, r + 1, by omega, by omega, by go_num, by go_num, HO7, HG7, hb7⟩
            case measure => simp [intOf]; omega
          · have hne : (r == row) = false := by simp; omega
            have hf : fullC (F r col) = false := by
              have := HD2.out (by omega)
              rwa [show row + 1 + (d : Int) = r from by omega] at this
            have hO := HO.out
            rw [List.take_of_length_le (by omega)] at hO
            have HOL := Lib.hid hO
            clear hO HO
            go_wp2_with fail
            refine (HFU.out r _ HG.out).mono ?_
            rintro e wq ⟨rfl, hdq⟩
            have hd := hdq.bels
            clear hdq
            rw [hf]
            clear hf
            replace hb := hb.trans (hd.mono hb.size)
            replace HOL := Lib.hid (own_below HOL.out hd)
            replace HG := Lib.hid (HG.out.kept hd)
            clear hd
            have hcv := own_bytes HOL.out (show k = W.length by omega)
            go_wp2
            go_ret2
            exact ⟨by rw [← HRJ.out]; rfl, hb⟩
theorem newsN1 {w : World} {g : Nat} {x : Value} (h0 : w.cell? ⟨g, 0, none⟩ = some x) : ∀ j u, [x][j]? = some u → w.cell? ((⟨g, 0, none⟩ : Addr).add j) = some u := by
  intro j u hu
  rw [Go.Addr.add_lit, Nat.zero_add]
  match j, hu with
  | 0, hu => rw [h0]; exact hu
  | (j + 1), hu => simp at hu
/-- a row of numbers of the call's own -/
def NumsPost (w : World) (xs : List Int) (e : Ending) (w' : World) : Prop :=
  ∃ g cap, e = .returned (.slice (some ⟨g, 0, none⟩) xs.length cap) ∧ w'.ownsRow w.heap.size 2 1 (.slice (some ⟨g, 0, none⟩) xs.length cap) xs.length (xs.flatMap I64.enc) ∧ Below w.heap.size w w'
set_option maxRecDepth 100000 in
set_option maxHeartbeats 4000000 in
theorem l13Letters_any (x : Tls) (q : TlA) (tg : Nat) (f : Brd) (n : Nat) (row col : Int) (down : Bool) (s : ByteArray) (g o : Nat) (w : World) (ht : TAt w tg x q) (hx : x.Good) (hb0 : f.Good n) (hg : BAt w g o f) (_hs : s.size ≤ 12) (hr0 : 0 ≤ row) (hr1 : row < n) (hc0 : 0 ≤ col) (hc1 : col + s.size ≤ n) :
    Calls Tryz.prog 94 #[.pointer (some ⟨tg, 0, none⟩), .pointer (some ⟨g, o, none⟩), .agg #[.int .i64 row, .int .i64 col, .bool down, .string s]] w (NumsPost w (lettersA x f.cell f.prm row col s.data.toList s.size)) := by
  obtain ⟨i0, hi0, hi1, hi2, hi3⟩ := info_parts infoI64
  have hn15 := hb0.hi
  obtain ⟨w2, hw2⟩ : ∃ w2, w2 = (w.alloc (.cells #[.int .i64 row, .int .i64 col, .bool down, .string s] 30)).alloc (.cells #[] 2) := ⟨_, rfl⟩
  have hb : Below w.heap.size w w2 := by rw [hw2]; exact ((Below.refl _ _).alloc (Nat.le_refl _) _).alloc (by simp) _
  have V0 : Hid (VarAt w2 w.heap.size 30 [.int .i64 row, .int .i64 col, .bool down, .string s]) := by
    rw [hw2]
    exact Lib.hid ((VarAt.new w 30 [.int .i64 row, .int .i64 col, .bool down, .string s]).kept ((Below.refl _ _).alloc (Nat.le_refl _) _))
  obtain ⟨lt, hlt⟩ : ∃ lt : Nat → List Int, ∀ k, lt k = lettersA x f.cell f.prm row col s.data.toList k := ⟨_, fun _ => rfl⟩
  have HO : Hid (w2.ownsRow (w.heap.size + 1) 2 1 (.slice (some ⟨w.heap.size + 1, 0, none⟩) 0 0) 0 ((lt 0).flatMap I64.enc)) := by
    rw [hw2, show lt 0 = [] from by rw [hlt]; rfl]
    have := World.ownsRow_made (base := w.heap.size + 1) (e := 2) (size := 1) (w.alloc (.cells #[.int .i64 row, .int .i64 col, .bool down, .string s] 30)) #[] 0 (by simp) (by unfold maxLen; omega) rfl
    simp only [World.size_alloc] at this
    exact Lib.hid this
  have HG := Lib.hid hg
  have HTT := Lib.hid ht
  have HAT : Hid (∀ c' W, f.inB row c' = true → BAt W g o f → Calls Tryz.prog 192 #[.pointer (some ⟨g, o, none⟩), .int .i64 row, .int .i64 c'] W fun e w' => e = .returned (.int .u8 ((f.cell row c').toNat : Int)) ∧ Drew W w') := Lib.hid (fun c' W hi h => l11At_any f n row c' g o W hb0 h hi)
  have HLE : Hid (∀ c' (y : UInt8) W, f.inB row c' = true → TAt W tg x q → BAt W g o f → Calls Tryz.prog 188 #[.pointer (some ⟨tg, 0, none⟩), .pointer (some ⟨g, o, none⟩), .int .i64 row, .int .i64 c', .int .u8 (y.toNat : Int)] W fun e w' => e = .returned (.int .i64 (letS (x.val y) (f.prm row c'))) ∧ Drew W w') := Lib.hid (fun c' y W hi h1 h2 => l13Letter_any x q tg f n row c' y g o W h1 hx hb0 h2 hi)
  have HVA : Hid (∀ (y : UInt8) W, TAt W tg x q → Calls Tryz.prog 189 #[.pointer (some ⟨tg, 0, none⟩), .int .u8 (y.toNat : Int)] W fun e w' => e = .returned (.int .i64 (x.val y)) ∧ W = w') := Lib.hid (fun y W h => l02Value_any x q tg y W h hx)
  have HIB : Hid (∀ i : Nat, i < s.size → f.inB row (col + i) = true) := Lib.hid (fun i h => hb0.inB.2 (by omega))
  have HA1 : Hid (∀ k (h : k < s.size), ((f.cell row (col + k)).toNat : Int) == 46 → lt (k + 1) = lt k ++ [letS (x.val s[k]) (f.prm row (col + k))]) := Lib.hid (fun k h e => by
    rw [hlt, hlt, lettersA_snoc]
    unfold letA
    rw [if_pos (int_46 e), byte_getD h])
  have HA2 : Hid (∀ k (h : k < s.size), (((f.cell row (col + k)).toNat : Int) == 46) = false → lt (k + 1) = lt k ++ [x.val s[k]]) := Lib.hid (fun k h e => by
    rw [hlt, hlt, lettersA_snoc]
    unfold letA
    rw [if_neg (int_not46 e), byte_getD h])
  have HLL : Hid (∀ k, (lt k).length = k) := Lib.hid (fun k => by rw [hlt, lettersA_len])
  have HEND : Hid (lettersA x f.cell f.prm row col s.data.toList s.size = lt s.size) := Lib.hid (hlt _).symm
  rw [HEND.out]
  have HW2 := Lib.hid hw2
  clear hw2 hg ht hb0 hx hlt HEND
  go_enter Tryz.func94, Tryz.ntmps94
  go_wp2_with fail
  rw [← HW2.out]
  clear HW2
  go_loopw [7, 8] (fun ov iv wr => ∃ (k g1 cap : Nat), k ≤ s.size ∧ iv = .int .i64 k ∧ ov = .slice (some ⟨g1, 0, none⟩) k cap ∧ Hid (wr.ownsRow (w.heap.size + 1) 2 1 (.slice (some ⟨g1, 0, none⟩) k cap) k ((lt k).flatMap I64.enc)) ∧ Hid (VarAt wr w.heap.size 30 [.int .i64 row, .int .i64 col, .bool down, .string s]) ∧ Below w.heap.size w wr) (fun _ iv _ => s.size - (intOf iv).toNat)
  case atStart => exact ⟨0, _, 0, Nat.zero_le _, rfl, rfl, HO, V0, hb⟩
  case round =>
    clear HO V0 hb
    obtain ⟨k, g1, cap, hk, rfl, rfl, HO, V0, hb⟩ := hrel
    have c0 := V0.out.cell (i := 0) rfl
    have c1 := V0.out.cell (i := 1) rfl
    have c3 := V0.out.cell (i := 3) rfl
    have hz0 := V0.out.lt
    by_cases hk2 : k < s.size
    · have hin := HIB.out k hk2
      have HIN := Lib.hid hin
      have hw1 : IntKind.i64.wrap (col + (k : Int)) = col + (k : Int) := IntWalk.i64_in _ (by omega)
      have H1 := Lib.hid (HA1.out k hk2)
      have H2 := Lib.hid (HA2.out k hk2)
      clear hin
      generalize lt k = ls at *
      cases e1 : (((f.cell row (col + (k : Int))).toNat : Int) == 46) with
      | false =>
        have HSN := Lib.hid (H2.out e1)
        clear H1 H2
        go_wp2_with fail
        refine (HAT.out _ _ HIN.out (HG.out.kept hb)).mono ?_
        rintro e wq ⟨rfl, hdq⟩
        have hd : Below wr.heap.size wr wq := hdq.below _
        clear hdq c0 c1 c3
        replace hb := hb.trans (hd.mono hb.size)
        replace HO := Lib.hid (own_below HO.out hd)
        replace V0 := Lib.hid (V0.out.kept hd)
        clear hd
        have c3 := V0.out.cell (i := 3) rfl
        go_wp2_with fail
        refine (HVA.out _ _ (HTT.out.kept hb)).mono ?_
        rintro e wz ⟨rfl, rfl⟩
        clear c3
        generalize x.val s[k] = v at *
        have hx : Below (wq).heap.size wq ((wq).alloc (.cells #[.int .i64 (v)] 2)) := (Below.refl _ _).alloc (Nat.le_refl _) _
        have KN := Lib.hid (new_i64 wq (v) 2)
        have hz3 := hb.size
        replace hb := hb.trans (hx.mono hb.size)
        replace HO := Lib.hid (own_below HO.out hx)
        replace V0 := Lib.hid (V0.out.kept hx)
        clear hx
        go_wp2_with (at_builtin; go_must (refine wpList_append_lies _ rfl (.tmp 42) (.tmp 49) 42 rfl (w.heap.size + 1) 2 i0 _ 1 8 Tryz.underlying42 hi0 hi1 hi2 hi3 rfl (by decide) _ k (ls.flatMap I64.enc) (by rfl) HO.out ⟨(wq).heap.size, 0, none⟩ 1 1 (I64.enc (v)) (by rfl) rfl KN.out (i64_one (v)) (by decide) ?c1 ?c2 ?c3 _ rfl ?_))
        case c1 => unfold maxLen; omega
        case c2 => omega
        case c3 => (first | omega | (simp only [World.size_alloc]; omega))
        intro g7 cap7 w7 hown hgr hwh hlt7
        have hb7 := hb.grown hgr hb.size (fun q e => by have := (HO.out.lt q e).1; omega)
        have HO7 : Hid (w7.ownsRow (w.heap.size + 1) 2 1 (.slice (some ⟨g7, 0, none⟩) (k + 1) cap7) (k + 1) ((lt (k + 1)).flatMap I64.enc)) := Lib.hid (by rw [HSN.out, snoc_flat I64.enc]; exact hown)
        have V7 := Lib.hid (V0.out.grown hgr (own_ne HO.out (by omega)))
        clear hown hgr hwh KN HO hb V0
        go_wp2
        go_roundw
        case rel => exact ⟨k + 1, g7, cap7, by omega, by go_num, by go_num, HO7, V7, hb7⟩
        case measure => simp [intOf]; omega
      | true =>
        have HSN := Lib.hid (H1.out e1)
        clear H1 H2
        go_wp2_with fail
        refine (HAT.out _ _ HIN.out (HG.out.kept hb)).mono ?_
        rintro e wq ⟨rfl, hdq⟩
        have hd : Below wr.heap.size wr wq := hdq.below _
        clear hdq c0 c1 c3
        replace hb := hb.trans (hd.mono hb.size)
        replace HO := Lib.hid (own_below HO.out hd)
        replace V0 := Lib.hid (V0.out.kept hd)
        clear hd
        have HLC : Hid (∀ W, TAt W tg x q → BAt W g o f → Calls Tryz.prog 188 #[.pointer (some ⟨tg, 0, none⟩), .pointer (some ⟨g, o, none⟩), .int .i64 row, .int .i64 (col + (k : Int)), .int .u8 (s[k].toNat : Int)] W fun e w' => e = .returned (.int .i64 (letS (x.val s[k]) (f.prm row (col + (k : Int))))) ∧ Drew W w') := Lib.hid (fun W h1 h2 => HLE.out _ _ W HIN.out h1 h2)
        generalize letS (x.val s[k]) (f.prm row (col + (k : Int))) = v at *
        go_upto_region 6 with fail
        have hk2 : Below wq.heap.size wq wq.drew := (Below.refl _ _).drew
        have VZ := Lib.hid (V0.out.kept hk2)
        have hzq := hb.size
        have hzv := V0.out.lt
        go_region_held3 (fun w' => w'.cell? ⟨w.heap.size, 0, none⟩ = some (.int .i64 row) ∧ w'.cell? ⟨w.heap.size, 1, none⟩ = some (.int .i64 col) ∧ w'.cell? ⟨w.heap.size, 3, none⟩ = some (.string s))
          (first | exact ⟨VZ.out.cell (i := 0) rfl, VZ.out.cell (i := 1) rfl, VZ.out.cell (i := 3) rfl⟩ | exact ⟨cell_alloc (VZ.out.cell (i := 0) rfl) _, cell_alloc (VZ.out.cell (i := 1) rfl) _, cell_alloc (VZ.out.cell (i := 3) rfl) _⟩)
          (first
            | (go_at_call 188; refine (HLC.out _ (HTT.out.kept (hb.trans (hk2.mono hb.size))) (HG.out.kept (hb.trans (hk2.mono hb.size)))).mono ?_; rintro e wx ⟨rfl, hdq⟩; have hdd := Drew.bels hdq; replace VZ := Lib.hid (VZ.out.kept hdd); replace hk2 := hk2.trans (hdd.mono hk2.size); clear hdq hdd)
            | ((first | refine step_new_drew ?_ | refine step_new ?_); intro wz hxz hnz hoz; have nb0 := hnz.1 0 _ rfl; replace VZ := Lib.hid (VZ.out.kept hxz); replace hk2 := hk2.trans (hxz.mono hk2.size); have HO2 := Lib.hid (own_below HO.out hk2); have hzz : w.heap.size + 1 ≤ wz.heap.size := Nat.le_trans hzv hk2.size; clear hxz hnz hoz; refine step_append_lies _ ?_ (.tmp 26) (.tmp 40) 42 ?_ (w.heap.size + 1) 2 i0 (.int .i64 0) 1 8 Tryz.underlying42 hi0 hi1 hi2 hi3 rfl (by decide) (.slice (some ⟨g1, 0, none⟩) k cap) k (ls.flatMap I64.enc) ?_ HO2.out ⟨_, 0, none⟩ 1 1 (I64.enc v) ?_ rfl (newsN1 nb0) (i64_one v) (by decide) ?_ ?_ hzz _ rfl ?_; (all_goals (first | rfl | (unfold maxLen; omega) | omega | skip)); intro g5 cap5 w5 ho5 hg5 hat5 hlt5; replace VZ := Lib.hid (VZ.out.grown hg5 (own_ne HO2.out (by omega)))))
        all_goals
          have hb5 := (hb.trans (hk2.mono hb.size)).grown hg5 (Nat.le_trans hzq hk2.size) (fun q h => by have := (HO2.out.lt q h).1; omega)
          have HO5 : Hid (w5.ownsRow (w.heap.size + 1) 2 1 (.slice (some ⟨g5, 0, none⟩) (k + 1) cap5) (k + 1) ((lt (k + 1)).flatMap I64.enc)) := Lib.hid (by
            rw [HSN.out, ← flat_snoc I64.enc]; exact ho5)
          clear ho5 hg5 hat5 hlt5 nb0 hk2 HO2 hzz HO V0 hb
          go_wp2
          go_roundw
          case rel => exact ⟨k + 1, g5, cap5, by omega, by go_num, by go_num, HO5, VZ, hb5⟩
          case measure => simp [intOf]; omega
    · obtain rfl : k = s.size := by omega
      go_wp2
      go_ret
      exact ⟨g1, cap, by rw [HLL.out]; rfl, by rw [HLL.out]; exact own_mono HO.out (by omega), hb⟩
end Go.Proofs.YtjdcdhhbgijaoaaGreatDoor

namespace Go.Proofs.YtjdcdhhbgijaoaaGreatDoor
open Go.ChangeShapes Go.WideShapes Go.ChangeAt Go.RowKit Go.Sort

theorem num_row {w : World} {base gf cap : Nat} {xs : List Int} {n : Nat} (h : w.ownsRow base 2 1 (.slice (some ⟨gf, 0, none⟩) n cap) n (xs.flatMap I64.enc)) {k : Nat} (hk : k < xs.length) : w.cell? ⟨gf, k, none⟩ = some (.int .i64 xs[k]) := by
  have h1 := own_news0 h k (.int .i64 xs[k]) (by
    have := flatMap_get (enc := I64.enc) (sz := 1) I64.enc_len xs hk (j := 0) (by omega)
    rw [Nat.mul_one, Nat.add_zero] at this
    rw [this]
    rfl)
  rwa [Go.Addr.add_lit, Nat.zero_add] at h1
theorem own_new_num (w : World) (v : Int) (t : TypeId) (base : Nat) (hb : base ≤ w.heap.size) : (w.alloc (.cells #[.int .i64 v] t)).ownsRow base t 1 (.slice (some ⟨w.heap.size, 0, none⟩) 1 1) 1 [.int .i64 v] :=
  ⟨by simp, .inr ⟨w.heap.size, 1, #[.int .i64 v], rfl, hb, heap_alloc_new w _, Nat.le_refl _, by unfold maxLen; omega, by simp, by simp⟩⟩
/-- the scores of the words that the first offsets form, the main word's first -/
def allA (m : Int) (x : Tls) (F G : Fl) (R C : Int) (l : List UInt8) (is : List Nat) : List Int := m :: partsA x F G R C l is
theorem allA_yes {m : Int} {x : Tls} {F G : Fl} {R C : Int} {l : List UInt8} {is : List Nat} {i : Nat} (h : 1 < (crossW F R (C + i) (l.getD i 0)).length) : allA m x F G R C l (is ++ [i]) = allA m x F G R C l is ++ [partA x F G R C l i] := by
  unfold allA
  rw [partsA_snoc, if_pos h]
  rfl
theorem allA_no {m : Int} {x : Tls} {F G : Fl} {R C : Int} {l : List UInt8} {is : List Nat} {i : Nat} (h : ¬ 1 < (crossW F R (C + i) (l.getD i 0)).length) : allA m x F G R C l (is ++ [i]) = allA m x F G R C l is := by
  unfold allA
  rw [partsA_snoc, if_neg h, List.append_nil]
theorem allA_len (m : Int) (x : Tls) (F G : Fl) (R C : Int) (l : List UInt8) (is : List Nat) : (allA m x F G R C l is).length ≤ is.length + 1 := by
  unfold allA
  have := partsA_len x F G R C l is
  simp only [List.length_cons]
  omega
set_option maxRecDepth 100000 in
set_option maxHeartbeats 8000000 in
theorem l13Parts_any (x : Tls) (q : TlA) (tg : Nat) (f : Brd) (n : Nat) (row col : Int) (down : Bool) (s : ByteArray) (g o : Nat) (w : World) (ht : TAt w tg x q) (hx : x.Good) (hb0 : f.Good n) (hg : BAt w g o f) (hs : s.size ≤ 12) (hr0 : 0 ≤ row) (hr1 : row < n) (hc0 : 0 ≤ col) (hc1 : col + s.size ≤ n) :
    Calls Tryz.prog 92 #[.pointer (some ⟨tg, 0, none⟩), .pointer (some ⟨g, o, none⟩), .agg #[.int .i64 row, .int .i64 col, .bool down, .string s]] w (NumsPost w (allA (mainA x f.cell f.prm row col s.data.toList s.size (freshL f.cell row col s.size)) x f.cell f.prm row col s.data.toList (freshL f.cell row col s.size))) := by
  obtain ⟨i0, hi0, hi1, hi2, hi3⟩ := info_parts infoI64
  have hn15 := hb0.hi
  have hb : Below w.heap.size w (w.alloc (.cells #[.int .i64 row, .int .i64 col, .bool down, .string s] 30)) := (Below.refl _ _).alloc (Nat.le_refl _) _
  have V0 := Lib.hid (VarAt.new w 30 [.int .i64 row, .int .i64 col, .bool down, .string s])
  have HG := Lib.hid hg
  have HTT := Lib.hid ht
  have HLT0 : Hid (∀ W, TAt W tg x q → BAt W g o f → Calls Tryz.prog 94 #[.pointer (some ⟨tg, 0, none⟩), .pointer (some ⟨g, o, none⟩), .agg #[.int .i64 row, .int .i64 col, .bool down, .string s]] W (NumsPost W (lettersA x f.cell f.prm row col s.data.toList s.size))) := Lib.hid (fun W h1 h2 => l13Letters_any x q tg f n row col down s g o W h1 hx hb0 h2 hs hr0 hr1 hc0 hc1)
  have HMA : Hid (∀ W, BAt W g o f → Calls Tryz.prog 97 #[.pointer (some ⟨g, o, none⟩), .agg #[.int .i64 row, .int .i64 col, .bool down, .string s]] W fun e w' => e = .returned (.int .i64 (facA f.prm row col (freshL f.cell row col s.size))) ∧ Below W.heap.size W w') := Lib.hid (fun W h => l13Main_any f n row col down s g o W hb0 h hs hr0 hr1 hc0 hc1)
  have HFR : Hid (∀ W, BAt W g o f → Calls Tryz.prog 98 #[.pointer (some ⟨g, o, none⟩), .agg #[.int .i64 row, .int .i64 col, .bool down, .string s]] W (NatsPost W (freshL f.cell row col s.size))) := Lib.hid (fun W h => l12Fresh_any f n row col down s g o W hb0 h hs hr0 hr1 hc0 hc1)
  have HCR : Hid (∀ c' (y : UInt8) W, BAt W g o f → Calls Tryz.prog 187 #[.pointer (some ⟨g, o, none⟩), .int .i64 row, .int .i64 c', .int .u8 (y.toNat : Int)] W fun e w' => e = .returned (.tuple #[.string (mkB (crossW f.cell row c' y)), .int .i64 (row - ((upL f.cell c' 16 (row - 1)).length : Int))]) ∧ Below W.heap.size W w') := Lib.hid (fun c' y W h => l12CrossR_any f n row c' y g o W hb0 h hr0 hr1)
  have HLE : Hid (∀ c' (y : UInt8) W, f.inB row c' = true → TAt W tg x q → BAt W g o f → Calls Tryz.prog 188 #[.pointer (some ⟨tg, 0, none⟩), .pointer (some ⟨g, o, none⟩), .int .i64 row, .int .i64 c', .int .u8 (y.toNat : Int)] W fun e w' => e = .returned (.int .i64 (letS (x.val y) (f.prm row c'))) ∧ Drew W w') := Lib.hid (fun c' y W hi h1 h2 => l13Letter_any x q tg f n row c' y g o W h1 hx hb0 h2 hi)
  have HVA : Hid (∀ (y : UInt8) W, TAt W tg x q → Calls Tryz.prog 189 #[.pointer (some ⟨tg, 0, none⟩), .int .u8 (y.toNat : Int)] W fun e w' => e = .returned (.int .i64 (x.val y)) ∧ W = w') := Lib.hid (fun y W h => l02Value_any x q tg y W h hx)
  have HFA : Hid (∀ c' W, f.inB row c' = true → BAt W g o f → Calls Tryz.prog 190 #[.pointer (some ⟨g, o, none⟩), .int .i64 row, .int .i64 c'] W fun e w' => e = .returned (.int .i64 (facP (f.prm row c'))) ∧ Drew W w') := Lib.hid (fun c' W hi h => l13Factor_any f n row c' g o W hb0 h hi)
  have HIB : Hid (∀ i : Nat, i < s.size → f.inB row (col + i) = true) := Lib.hid (fun i h => hb0.inB.2 (by omega))
  have HLT : Hid (∀ i ∈ freshL f.cell row col s.size, i < s.size) := Lib.hid (fun i h => (freshL_lt h).1)
  have hfl := freshL_len f.cell row col s.size
  have HAL := Lib.hid (letA_range hx f.cell f.prm row col s.data.toList)
  have HLS : Hid (∀ k, k < s.size → ∀ (W : World) gl cl, W.ownsRow w.heap.size 2 1 (.slice (some ⟨gl, 0, none⟩) s.size cl) s.size ((lettersA x f.cell f.prm row col s.data.toList s.size).flatMap I64.enc) → W.cell? ⟨gl, k, none⟩ = some (.int .i64 (letA x f.cell f.prm row col s.data.toList k))) := Lib.hid (fun k h W gl cl hx => by
    have := num_row hx (k := k) (by rw [lettersA_len]; exact h)
    rw [this]
    unfold lettersA
    rw [List.getElem_map, List.getElem_range])
  have HLL : Hid ((lettersA x f.cell f.prm row col s.data.toList s.size).length = s.size) := Lib.hid (lettersA_len _ _ _ _ _ _ _)
  have HFB := Lib.hid (facA_le f.prm row col (is := freshL f.cell row col s.size) (by omega))
  have HVR := Lib.hid (fun c => hx.val_range c)
  obtain ⟨mm, hmm⟩ : ∃ mm, mm = mainA x f.cell f.prm row col s.data.toList s.size (freshL f.cell row col s.size) := ⟨_, rfl⟩
  rw [← hmm]
  have HMM : Hid (mm = sumTo (letA x f.cell f.prm row col s.data.toList) s.size * facA f.prm row col (freshL f.cell row col s.size)) := Lib.hid hmm
  have HMR := Lib.hid (mainA_range hx f.cell f.prm row col s.data.toList (k := s.size) (is := freshL f.cell row col s.size) hs (by omega))
  rw [← hmm] at HMR
  clear hg ht hmm
  go_enter Tryz.func92, Tryz.ntmps92
  go_upto_region 1 with fail
  generalize w.alloc (.cells #[.int .i64 row, .int .i64 col, .bool down, .string s] 30) = w1 at *
  have c0 := V0.out.cell (i := 0) rfl
  have c1 := V0.out.cell (i := 1) rfl
  have c2 := V0.out.cell (i := 2) rfl
  have c3 := V0.out.cell (i := 3) rfl
  go_wp2_with fail
  refine (HLT0.out _ (HTT.out.kept hb) (HG.out.kept hb)).mono ?_
  rintro e w5 ⟨gl, cl, rfl, hl0, hd⟩
  have hz := hb.size
  rw [HLL.out] at hl0 ⊢
  have HX := Lib.hid (own_mono hl0 (show w.heap.size ≤ _ by omega))
  clear hl0 c0 c1 c2 c3 HLT0
  replace hb := hb.trans (hd.mono hb.size)
  replace V0 := Lib.hid (V0.out.kept hd)
  clear hd
  generalize hfa : facA f.prm row col (freshL f.cell row col s.size) = fm at *
  clear hfa
  go_wp2_with fail
  obtain ⟨la, hla⟩ : ∃ la : Nat → Int, ∀ k, la k = letA x f.cell f.prm row col s.data.toList k := ⟨_, fun _ => rfl⟩
  have HLA : Hid (∀ k, 0 ≤ la k ∧ la k ≤ 60) := Lib.hid (fun k => by rw [hla]; exact HAL.out k)
  have HSU : Hid (sumTo la s.size * fm = mm) := Lib.hid (by rw [HMM.out, show la = letA x f.cell f.prm row col s.data.toList from funext hla])
  have HLC : Hid (∀ k, k < s.size → ∀ (W : World), W.ownsRow w.heap.size 2 1 (.slice (some ⟨gl, 0, none⟩) s.size cl) s.size ((lettersA x f.cell f.prm row col s.data.toList s.size).flatMap I64.enc) → W.cell? ⟨gl, k, none⟩ = some (.int .i64 (la k))) := Lib.hid (fun k h W hx => by rw [hla]; exact HLS.out k h W gl cl hx)
  have HS0 := Lib.hid (sumTo_zero la)
  have HSS := Lib.hid (sumTo_succ la)
  have HSR : Hid (∀ k, 0 ≤ sumTo la k ∧ sumTo la k ≤ 60 * k) := Lib.hid (fun k => sumTo_range (fun i _ => HLA.out i))
  clear HMM HLS HAL hla
  generalize sumTo la = sm at *
  generalize lettersA x f.cell f.prm row col s.data.toList s.size = ls at *
  go_loopw [8, 9] (fun tv iv wr => ∃ (k : Nat) (t : Int), k ≤ s.size ∧ iv = .int .i64 k ∧ tv = .int .i64 t ∧ 0 ≤ t ∧ t ≤ 60 * k ∧ Hid (t = sm k) ∧ Hid (wr.ownsRow w.heap.size 2 1 (.slice (some ⟨gl, 0, none⟩) s.size cl) s.size (ls.flatMap I64.enc)) ∧ Hid (VarAt wr w.heap.size 30 [.int .i64 row, .int .i64 col, .bool down, .string s]) ∧ Below w.heap.size w wr) (fun _ iv _ => s.size - (intOf iv).toNat)
  case atStart => exact ⟨0, 0, Nat.zero_le _, rfl, rfl, by omega, by omega, Lib.hid HS0.out.symm, HX, V0, hb⟩
  case round =>
    clear HX V0 hb
    obtain ⟨k, t, hk, rfl, rfl, ht0, ht1, HT, HX, V0, hb⟩ := hrel
    by_cases hkm : k < s.size
    · have cx := HLC.out k hkm _ HX.out
      have hlk := HLA.out k
      have HT2 : Hid (t + la k = sm (k + 1)) := Lib.hid (by rw [HSS.out, HT.out])
      generalize la k = v at *
      have hw : IntKind.i64.wrap (t + v) = t + v := IntWalk.i64_in _ (by omega)
      clear HT
      go_wp2
      go_roundw
      case rel => exact ⟨k + 1, t + v, by omega, by go_num, rfl, by omega, by omega, HT2, HX, V0, hb⟩
      case measure => simp [intOf]; omega
    · obtain rfl : k = s.size := by omega
      have HTM : Hid (t * fm = mm) := Lib.hid (by rw [HT.out]; exact HSU.out)
      have hmr := HMR.out
      have hw : IntKind.i64.wrap (t * fm) = mm := by rw [HTM.out]; exact IntWalk.i64_in _ (by omega)
      clear HT HSU HSS HS0 HSR HLC HLA HX
      have c0 := V0.out.cell (i := 0) rfl
      have c1 := V0.out.cell (i := 1) rfl
      have c2 := V0.out.cell (i := 2) rfl
      have c3 := V0.out.cell (i := 3) rfl
      go_wp2_with fail
      refine (HMA.out _ (HG.out.kept hb)).mono ?_
      rintro e w6 ⟨rfl, hd⟩
      clear c0 c1 c2 c3 HMA
      replace hb := hb.trans (hd.mono hb.size)
      replace V0 := Lib.hid (V0.out.kept hd)
      clear hd
      have hzv := V0.out.lt
      have HO : Hid ((w6.alloc (.cells #[.int .i64 mm] 2)).ownsRow (w.heap.size + 1) 2 1 (.slice (some ⟨w6.heap.size, 0, none⟩) 1 1) 1 [.int .i64 mm]) := Lib.hid (own_new_num w6 mm 2 (w.heap.size + 1) hzv)
      have hd : Below w6.heap.size w6 (w6.alloc (.cells #[.int .i64 mm] 2)) := (Below.refl _ _).alloc (Nat.le_refl _) _
      go_upto_region 8 with fail
      replace hb := hb.trans (hd.mono hb.size)
      replace V0 := Lib.hid (V0.out.kept hd)
      clear hd
      have hgw6 : w6.heap.size < (w6.alloc (.cells #[.int .i64 mm] 2)).heap.size := by simp
      generalize w6.alloc (.cells #[.int .i64 mm] 2) = w7 at *
      generalize w6.heap.size = go1 at *
      have HFB2 : Hid (∀ i : Nat, i < s.size → s.data.toList.getD i 0 = s[i]!) := Lib.hid (fun i h => by rw [byte_getD h, getElem!_pos s i h])
      obtain ⟨po, hpo⟩ : ∃ po : List Nat → List Int, ∀ is, po is = allA mm x f.cell f.prm row col s.data.toList is := ⟨_, fun _ => rfl⟩
      have HPY : Hid (∀ is (i : Nat), 1 < (crossW f.cell row (col + i) (s.data.toList.getD i 0)).length → po (is ++ [i]) = po is ++ [partA x f.cell f.prm row col s.data.toList i]) := Lib.hid (fun is i h => by rw [hpo, hpo, allA_yes h])
      have HPN : Hid (∀ is (i : Nat), ¬ 1 < (crossW f.cell row (col + i) (s.data.toList.getD i 0)).length → po (is ++ [i]) = po is) := Lib.hid (fun is i h => by rw [hpo, hpo, allA_no h])
      have HPL : Hid (∀ is, (po is).length ≤ is.length + 1) := Lib.hid (fun is => by rw [hpo]; exact allA_len _ _ _ _ _ _ _ is)
      have HP0 : Hid (po [] = [mm]) := Lib.hid (by rw [hpo]; rfl)
      have HEQ := Lib.hid (hpo (freshL f.cell row col s.size))
      clear hpo
      generalize freshL f.cell row col s.size = fr at *
      have HR : Hid (∀ k, k < fr.length → ∃ i : Nat, i < s.size ∧ fr.take (k + 1) = fr.take k ++ [i] ∧ ∀ (W : World) gf cf, W.ownsRow (w.heap.size + 1) 2 1 (.slice (some ⟨gf, 0, none⟩) fr.length cf) fr.length (fr.flatMap N64.enc) → W.cell? ⟨gf, k, none⟩ = some (.int .i64 (i : Int))) := Lib.hid (fun k h => ⟨fr[k], HLT.out _ (List.getElem_mem _), take_nat h rfl, fun W gf cf hx => row_nat hx h rfl⟩)
      have c0 := V0.out.cell (i := 0) rfl
      have c1 := V0.out.cell (i := 1) rfl
      have c2 := V0.out.cell (i := 2) rfl
      have c3 := V0.out.cell (i := 3) rfl
      go_wp2_with fail
      refine (HFR.out _ (HG.out.kept hb)).mono ?_
      rintro e w8 ⟨gf, cf, rfl, hx0, hd⟩
      have hgf := (hx0.lt gf rfl).1
      have hz7 := V0.out.lt
      have HX := Lib.hid (own_mono hx0 (show w.heap.size + 1 ≤ _ by omega))
      clear hx0 c0 c1 c2 c3 HFR
      replace hb := hb.trans (hd.mono hb.size)
      replace HO := Lib.hid (own_below HO.out hd)
      replace V0 := Lib.hid (V0.out.kept hd)
      clear hd
      generalize hfrl : fr.length = m at *
      have HML := Lib.hid hfrl
      clear hfrl
      go_wp2_with fail
      go_loopw [10, 12] (fun ov iv wr => ∃ (k g1 cap ny : Nat), k ≤ m ∧ iv = .int .i64 k ∧ ov = .slice (some ⟨g1, 0, none⟩) ny cap ∧ Hid ((po (fr.take k)).length = ny) ∧ g1 ≠ gf ∧ gf < wr.heap.size ∧ Hid (wr.ownsRow (w.heap.size + 1) 2 1 (.slice (some ⟨g1, 0, none⟩) ny cap) ny ((po (fr.take k)).flatMap I64.enc)) ∧ Hid (wr.ownsRow (w.heap.size + 1) 2 1 (.slice (some ⟨gf, 0, none⟩) m cf) m (fr.flatMap N64.enc)) ∧ Hid (VarAt wr w.heap.size 30 [.int .i64 row, .int .i64 col, .bool down, .string s]) ∧ Below w.heap.size w wr) (fun _ iv _ => m - (intOf iv).toNat)
      case atStart => exact ⟨0, _, 1, 1, Nat.zero_le _, rfl, rfl, Lib.hid (by rw [List.take_zero, HP0.out]; rfl), by omega, (HX.out.lt gf rfl).2, Lib.hid (by rw [List.take_zero, HP0.out]; exact HO.out), HX, V0, hb⟩
      case round =>
        clear HX V0 hb HO
        obtain ⟨k, g1, cap, ny, hk, rfl, rfl, HNY, hne, hgw, HO, HX, V0, hb⟩ := hrel
        by_cases hkm : k < m
        · obtain ⟨i, his, htk, hrx⟩ := HR.out k hkm
          have HTK := Lib.hid htk
          have HCX := Lib.hid (fun W => hrx W gf cf)
          have HIN := Lib.hid (HIB.out i his)
          have hny : ny ≤ 13 := by
            have h1 := HPL.out (fr.take k)
            have h2 : (fr.take k).length ≤ k := by rw [List.length_take]; omega
            have h3 := HNY.out
            omega
          clear hrx htk
          have HY := Lib.hid (HPY.out (fr.take k) i)
          have HN := Lib.hid (HPN.out (fr.take k) i)
          rw [← HTK.out, byte_getD his] at HY HN
          have HPA : Hid (partA x f.cell f.prm row col s.data.toList i = sumTo (croA x (crossW f.cell row (col + i) s[i]) (upL f.cell (col + i) 16 (row - 1)).length (letS (x.val s[i]) (f.prm row (col + i)))) (crossW f.cell row (col + i) s[i]).length * facP (f.prm row (col + i))) := Lib.hid (by unfold partA crossSum; rw [byte_getD his])
          have hpr := partA_range hx f.cell f.prm row col s.data.toList i
          have hw1 : IntKind.i64.wrap (col + (i : Int)) = col + (i : Int) := IntWalk.i64_in _ (by omega)
          have hii : (i : Int) < (s.size : Int) := by omega
          have hin0 : (0 : Int) ≤ (i : Int) := by omega
          have c1 := V0.out.cell (i := 1) rfl
          have cx := HCX.out wr HX.out
          go_wp2_with fail
          go_quiet (fail)
          have hd : Below wr.heap.size wr (wr.drewN nq) := (show Drew wr (wr.drewN nq) from ⟨_, rfl⟩).below _
          clear c1 cx
          replace hgw := Nat.lt_of_lt_of_le hgw hd.size
          replace hb := hb.trans (hd.mono hb.size)
          replace HO := Lib.hid (own_below HO.out hd)
          replace HX := Lib.hid (own_below HX.out hd)
          replace V0 := Lib.hid (V0.out.kept hd)
          clear hd
          generalize wr.drewN nq = wa at *
          have c3 := V0.out.cell (i := 3) rfl
          have cx := HCX.out wa HX.out
          go_wp2_with fail
          go_quiet (fail)
          have hd : Below wa.heap.size wa (wa.drewN nq) := (show Drew wa (wa.drewN nq) from ⟨_, rfl⟩).below _
          clear c3 cx
          replace hgw := Nat.lt_of_lt_of_le hgw hd.size
          replace hb := hb.trans (hd.mono hb.size)
          replace HO := Lib.hid (own_below HO.out hd)
          replace HX := Lib.hid (own_below HX.out hd)
          replace V0 := Lib.hid (V0.out.kept hd)
          clear hd
          generalize wa.drewN nq = wb at *
          have c0 := V0.out.cell (i := 0) rfl
          go_wp2_with fail
          refine (HCR.out _ _ _ (HG.out.kept hb)).mono ?_
          rintro e wc ⟨rfl, hd⟩
          clear c0
          replace hgw := Nat.lt_of_lt_of_le hgw hd.size
          replace hb := hb.trans (hd.mono hb.size)
          replace HO := Lib.hid (own_below HO.out hd)
          replace HX := Lib.hid (own_below HX.out hd)
          replace V0 := Lib.hid (V0.out.kept hd)
          clear hd
          have HLE2 : Hid (∀ W, TAt W tg x q → BAt W g o f → Calls Tryz.prog 188 #[.pointer (some ⟨tg, 0, none⟩), .pointer (some ⟨g, o, none⟩), .int .i64 row, .int .i64 (col + (i : Int)), .int .u8 (s[i].toNat : Int)] W fun e w' => e = .returned (.int .i64 (letS (x.val s[i]) (f.prm row (col + (i : Int))))) ∧ Drew W w') := Lib.hid (fun W h1 h2 => HLE.out _ _ W HIN.out h1 h2)
          have HFA2 : Hid (∀ W, BAt W g o f → Calls Tryz.prog 190 #[.pointer (some ⟨g, o, none⟩), .int .i64 row, .int .i64 (col + (i : Int))] W fun e w' => e = .returned (.int .i64 (facP (f.prm row (col + (i : Int))))) ∧ Drew W w') := Lib.hid (fun W h => HFA.out _ W HIN.out h)
          have hsr := letS_range (pr := f.prm row (col + (i : Int))) (HVR.out s[i])
          have hfr2 := facP_range (f.prm row (col + (i : Int)))
          have hcwl := crossW_len f.cell row (col + (i : Int)) s[i]
          have hul := hb0.up_le (c := col + (i : Int)) (r := row - 1) 16 (by omega)
          have HWB : Hid (∀ j (h : j < (mkB (crossW f.cell row (col + (i : Int)) s[i])).size), (crossW f.cell row (col + (i : Int)) s[i]).getD j 0 = (mkB (crossW f.cell row (col + (i : Int)) s[i]))[j]) := Lib.hid (fun j h => by
            have := byte_getD h
            rw [mkB_data] at this
            exact this)
          have HSZ : Hid ((mkB (crossW f.cell row (col + (i : Int)) s[i])).size = (crossW f.cell row (col + (i : Int)) s[i]).length) := Lib.hid (mkB_size _)
          generalize letS (x.val s[i]) (f.prm row (col + (i : Int))) = sc at *
          generalize facP (f.prm row (col + (i : Int))) = fc at *
          generalize partA x f.cell f.prm row col s.data.toList i = pa at *
          generalize (upL f.cell (col + (i : Int)) 16 (row - 1)).length = u at *
          generalize mkB (crossW f.cell row (col + (i : Int)) s[i]) = wd at *
          generalize crossW f.cell row (col + (i : Int)) s[i] = W at *
          by_cases hl : 1 < wd.size
          · have HFE := Lib.hid (HY.out (by rw [← HSZ.out]; exact hl))
            have hw3 : wd.size ≤ 33 := by rw [HSZ.out]; exact hcwl
            obtain ⟨cs, hcs⟩ : ∃ cs : Nat → Int, ∀ j, cs j = sumTo (croA x W u sc) j := ⟨_, fun _ => rfl⟩
            have HC0 : Hid (cs 0 = 0) := Lib.hid (by rw [hcs, sumTo_zero])
            have HC1 : Hid (∀ j, j = u → cs (j + 1) = cs j + sc) := Lib.hid (fun j e => by rw [hcs, hcs, sumTo_succ]; unfold croA; rw [if_pos e])
            have HC2 : Hid (∀ j (h : j < wd.size), ¬ j = u → cs (j + 1) = cs j + x.val wd[j]) := Lib.hid (fun j h e => by rw [hcs, hcs, sumTo_succ]; unfold croA; rw [if_neg e, HWB.out j h])
            have HCE : Hid (pa = cs wd.size * fc) := Lib.hid (by rw [HPA.out, hcs, HSZ.out])
            have hl2 : ¬ (wd.size : Int) < 2 := by omega
            clear HY HN HPA hcs HWB HSZ hl hcwl
            go_wp2_with fail
            go_loopw [17, 18] (fun pv jv wr => ∃ (j : Nat) (t : Int), j ≤ wd.size ∧ jv = .int .i64 j ∧ pv = .int .i64 t ∧ 0 ≤ t ∧ t ≤ 60 * j ∧ Hid (t = cs j) ∧ Drew wc wr) (fun _ jv _ => wd.size - (intOf jv).toNat)
            case atStart => exact ⟨0, 0, Nat.zero_le _, rfl, rfl, by omega, by omega, Lib.hid HC0.out.symm, Drew.refl _⟩
            case round =>
              obtain ⟨j, t, hj, rfl, rfl, ht0, ht1, HT, hdr⟩ := hrel
              have hbr : Below wc.heap.size wc wr := hdr.below _
              have hbw := hb.trans (hbr.mono hb.size)
              have c0 := (V0.out.kept hbr).cell (i := 0) rfl
              have hw4 : IntKind.i64.wrap (row - (u : Int) + (j : Int)) = row - (u : Int) + (j : Int) := IntWalk.i64_in _ (by omega)
              by_cases hjl : j < wd.size
              · by_cases hju : j = u
                · have heq : (row - (u : Int) + (j : Int) == row) = true := by rw [beq_iff_eq]; omega
                  have HT2 : Hid (t + sc = cs (j + 1)) := Lib.hid (by rw [HC1.out j hju, HT.out])
                  have hw5 : IntKind.i64.wrap (t + sc) = t + sc := IntWalk.i64_in _ (by omega)
                  clear hju HT
                  go_wp2_with fail
                  refine (HLE2.out _ (HTT.out.kept hbw) (HG.out.kept hbw)).mono ?_
                  rintro e wz ⟨rfl, hd2⟩
                  clear c0
                  have hdr2 := hdr.trans hd2
                  go_wp2
                  go_roundw
                  case rel => exact ⟨j + 1, t + sc, by omega, by go_num, rfl, by omega, by omega, HT2, hdr2⟩
                  case measure => simp [intOf]; omega
                · have heq : (row - (u : Int) + (j : Int) == row) = false := by rw [beq_eq_false_iff_ne]; omega
                  have hv := HVR.out wd[j]
                  have HT2 : Hid (t + x.val wd[j] = cs (j + 1)) := Lib.hid (by rw [HC2.out j hjl hju, HT.out])
                  have HV2 := Lib.hid (fun W h => HVA.out wd[j] W h)
                  generalize x.val wd[j] = v at *
                  have hw5 : IntKind.i64.wrap (t + v) = t + v := IntWalk.i64_in _ (by omega)
                  clear hju HT
                  go_wp2_with fail
                  refine (HV2.out _ (HTT.out.kept hbw)).mono ?_
                  rintro e wz ⟨rfl, rfl⟩
                  clear c0
                  go_wp2
                  go_roundw
                  case rel => exact ⟨j + 1, t + v, by omega, by go_num, rfl, by omega, by omega, HT2, hdr⟩
                  case measure => simp [intOf]; omega
              · obtain rfl : j = wd.size := by omega
                have HTE : Hid (t * fc = pa) := Lib.hid (by rw [HCE.out, HT.out])
                clear HT HC0 HC1 HC2 HCE
                replace hgw := Nat.lt_of_lt_of_le hgw hbr.size
                replace HO := Lib.hid (own_below HO.out hbr)
                replace HX := Lib.hid (own_below HX.out hbr)
                replace V0 := Lib.hid (V0.out.kept hbr)
                replace hb := hbw
                clear hbw hbr hdr
                have hw6 : IntKind.i64.wrap (t * fc) = pa := by rw [HTE.out]; exact IntWalk.i64_in _ (by omega)
                go_wp2_with fail
                refine (HFA2.out _ (HG.out.kept hb)).mono ?_
                rintro e wz ⟨rfl, hd2⟩
                have hd := Drew.bels hd2
                clear c0 hd2
                replace hgw := Nat.lt_of_lt_of_le hgw hd.size
                replace hb := hb.trans (hd.mono hb.size)
                replace HO := Lib.hid (own_below HO.out hd)
                replace HX := Lib.hid (own_below HX.out hd)
                replace V0 := Lib.hid (V0.out.kept hd)
                clear hd
                have hx3 : Below wz.heap.size wz (wz.alloc (.cells #[.int .i64 pa] 2)) := (Below.refl _ _).alloc (Nat.le_refl _) _
                have KN := Lib.hid (new_i64 wz pa 2)
                have hz3 := V0.out.lt
                replace hb := hb.trans (hx3.mono hb.size)
                replace HO := Lib.hid (own_below HO.out hx3)
                replace HX := Lib.hid (own_below HX.out hx3)
                replace V0 := Lib.hid (V0.out.kept hx3)
                clear hx3
                generalize hys : po (fr.take k) = ys at *
                go_wp2_with (at_builtin; go_must (refine wpList_append_lies _ rfl (.tmp 104) (.tmp 112) 42 rfl (w.heap.size + 1) 2 i0 _ 1 8 Tryz.underlying42 hi0 hi1 hi2 hi3 rfl (by decide) _ ny (ys.flatMap I64.enc) (by rfl) HO.out ⟨wz.heap.size, 0, none⟩ 1 1 (I64.enc pa) (by rfl) rfl KN.out (i64_one pa) (by decide) ?c1 ?c2 ?c3 _ rfl ?_))
                case c1 => unfold maxLen; omega
                case c2 => omega
                case c3 => (first | omega | (simp only [World.size_alloc]; omega))
                intro g7 cap7 w9 hown hgr hwh hlt7
                have hb7 := hb.grown hgr hb.size (fun q e => by have := (HO.out.lt q e).1; omega)
                have HNY7 : Hid ((po (fr.take (k + 1))).length = ny + 1) := Lib.hid (by rw [HFE.out, List.length_append, HNY.out]; rfl)
                have HO7 : Hid (w9.ownsRow (w.heap.size + 1) 2 1 (.slice (some ⟨g7, 0, none⟩) (ny + 1) cap7) (ny + 1) ((po (fr.take (k + 1))).flatMap I64.enc)) := Lib.hid (by rw [HFE.out, snoc_flat I64.enc]; exact hown)
                have hne7 : g7 ≠ gf := by
                  rcases hwh with h | h
                  · simp [Value.ownBlock] at h; omega
                  · rw [h]; (first | omega | (simp only [World.size_alloc]; omega))
                have HX7 := Lib.hid (HX.out.kept hgr (.inr (by simp [Value.ownBlock]; omega)))
                have V7 := Lib.hid (V0.out.grown hgr (own_ne HO.out (by omega)))
                have hgw7 : gf < w9.heap.size := Nat.lt_of_lt_of_le (by (first | omega | (simp only [World.size_alloc]; omega))) hgr.size
                clear hown hgr hwh KN HO hb V0 HX
                go_wp2
                go_roundw
                case rel => exact ⟨k + 1, g7, cap7, ny + 1, by omega, by go_num, by go_num, HNY7, hne7, hgw7, HO7, HX7, V7, hb7⟩
                case measure => simp [intOf]; omega
          · have HFE := Lib.hid (HN.out (by rw [← HSZ.out]; exact hl))
            have hl2 : (wd.size : Int) < 2 := by omega
            have HNY7 : Hid ((po (fr.take (k + 1))).length = ny) := Lib.hid (by rw [HFE.out, HNY.out])
            have HO7 : Hid (wc.ownsRow (w.heap.size + 1) 2 1 (.slice (some ⟨g1, 0, none⟩) ny cap) ny ((po (fr.take (k + 1))).flatMap I64.enc)) := Lib.hid (by rw [HFE.out]; exact HO.out)
            clear HO HY HN HPA HWB HSZ
            go_wp2
            go_roundw
            case rel => exact ⟨k + 1, g1, cap, ny, by omega, by go_num, rfl, HNY7, hne, hgw, HO7, HX, V0, hb⟩
            case measure => simp [intOf]; omega
        · obtain rfl : k = m := by omega
          have hO := HO.out
          have hN := HNY.out
          rw [List.take_of_length_le (by rw [HML.out]; exact Nat.le_refl _)] at hO hN
          have HON := Lib.hid hO
          have HNN := Lib.hid hN
          clear hO hN HO HNY
          go_wp2
          go_ret
          rw [← HEQ.out]
          exact ⟨g1, cap, by rw [HNN.out]; rfl, by rw [HNN.out]; exact own_mono HON.out (by omega), hb⟩
end Go.Proofs.YtjdcdhhbgijaoaaGreatDoor

namespace Go.Proofs.YtjdcdhhbgijaoaaGreatDoor
open Go.ChangeShapes Go.WideShapes Go.ChangeAt Go.RowKit Go.Sort

theorem parts_range {b : Brd} {p : Ply} {n : Nat} (h : PGood b p n) {x : Tls} (hx : x.Good) : ∀ v ∈ b.parts p x, 0 ≤ v ∧ v ≤ 382637520 := by
  have hf : (b.fresh p).length ≤ p.word.size := freshL_len _ _ _ _
  have h12 := h.twelve
  intro v hv
  unfold Brd.parts at hv
  cases hv with
  | head => exact mainA_range hx _ _ _ _ _ h12 (by omega)
  | tail _ hv =>
    unfold partsA at hv
    obtain ⟨i, _, rfl⟩ := List.mem_map.1 hv
    have := partA_range hx (b.view p) (b.pview p) p.r p.c p.word.data.toList i
    omega
theorem sum_range {xs : List Int} {B : Int} (h : ∀ v ∈ xs, 0 ≤ v ∧ v ≤ B) : 0 ≤ xs.sum ∧ xs.sum ≤ B * xs.length := by
  induction xs with
  | nil => simp
  | cons a xs ih =>
    have h1 := h a List.mem_cons_self
    have h2 := ih (fun v hv => h v (List.mem_cons_of_mem _ hv))
    simp only [List.sum_cons, List.length_cons]
    push_cast
    rw [Int.mul_add, Int.mul_one]
    omega
theorem sum_take_get {xs : List Int} {k : Nat} (h : k < xs.length) : (xs.take (k + 1)).sum = (xs.take k).sum + xs[k] := by
  rw [List.take_succ_eq_append_getElem h, List.sum_append]
  simp
theorem parts_len13 {b : Brd} {p : Ply} {n : Nat} (h : PGood b p n) (x : Tls) : (b.parts p x).length ≤ 13 := by
  have h1 := parts_len b p x
  have hf : (b.fresh p).length ≤ p.word.size := freshL_len _ _ _ _
  have h12 := h.twelve
  omega
/-- the reference's parts, for the play that is seen across -/
theorem flatParts_any (x : Tls) (q : TlA) (tg : Nat) (b : Brd) (p : Ply) (n : Nat) (g : Nat) (w : World) (ht : TAt w tg x q) (hx : x.Good) (hp : PGood b p n) (hg : BAt w g 0 (b.flat p.down)) :
    Calls Tryz.prog 92 #[.pointer (some ⟨tg, 0, none⟩), .pointer (some ⟨g, 0, none⟩), .agg #[.int .i64 p.flat.row, .int .i64 p.flat.col, .bool p.flat.down, .string p.word]] w (NumsPost w (b.parts p x)) := by
  have := l13Parts_any x q tg (b.flat p.down) n p.flat.row p.flat.col p.flat.down p.word g 0 w ht hx (hp.good.flat p.down) hg hp.twelve (by rw [Ply.flat_row]; exact hp.r0) (by rw [Ply.flat_row]; exact hp.r1) (by rw [Ply.flat_col]; exact hp.c0) (by rw [Ply.flat_col]; exact hp.c1)
  rw [Ply.flat_row, Ply.flat_col] at this ⊢
  exact this
theorem flatFresh_any (b : Brd) (p : Ply) (n : Nat) (g : Nat) (w : World) (hp : PGood b p n) (hg : BAt w g 0 (b.flat p.down)) :
    Calls Tryz.prog 98 #[.pointer (some ⟨g, 0, none⟩), .agg #[.int .i64 p.flat.row, .int .i64 p.flat.col, .bool p.flat.down, .string p.word]] w (NatsPost w (b.fresh p)) := by
  have := l12Fresh_any (b.flat p.down) n p.flat.row p.flat.col p.flat.down p.word g 0 w (hp.good.flat p.down) hg hp.twelve (by rw [Ply.flat_row]; exact hp.r0) (by rw [Ply.flat_row]; exact hp.r1) (by rw [Ply.flat_col]; exact hp.c0) (by rw [Ply.flat_col]; exact hp.c1)
  rw [Ply.flat_row, Ply.flat_col] at this ⊢
  exact this
set_option maxRecDepth 100000 in
set_option maxHeartbeats 4000000 in
theorem l13Score_any (x : Tls) (q : TlA) (tg : Nat) (b : Brd) (p : Ply) (n : Nat) (g o : Nat) (w : World) (ht : TAt w tg x q) (hx : x.Good) (hg : BAt w g o b) (hp : PGood b p n) :
    Calls Tryz.prog 89 #[.pointer (some ⟨tg, 0, none⟩), .pointer (some ⟨g, o, none⟩), .agg #[.int .i64 p.row, .int .i64 p.col, .bool p.down, .string p.word]] w fun e w' => e = .returned (.int .i64 (b.score p x)) ∧ Below w.heap.size w w' := by
  have hb : Below w.heap.size w (w.alloc (.cells #[.int .i64 p.row, .int .i64 p.col, .bool p.down, .string p.word] 30)) := (Below.refl _ _).alloc (Nat.le_refl _) _
  have V0 := Lib.hid (VarAt.new w 30 [.int .i64 p.row, .int .i64 p.col, .bool p.down, .string p.word])
  have HG := Lib.hid (hg.kept hb)
  have HTT := Lib.hid ht
  have HGD := Lib.hid hp.good
  have HPA : Hid (∀ x' W, TAt W tg x q → BAt W x' 0 (b.flat p.down) → Calls Tryz.prog 92 #[.pointer (some ⟨tg, 0, none⟩), .pointer (some ⟨x', 0, none⟩), .agg #[.int .i64 p.flat.row, .int .i64 p.flat.col, .bool p.flat.down, .string p.word]] W (NumsPost W (b.parts p x))) := Lib.hid (fun x' W h1 h2 => flatParts_any x q tg b p n x' W h1 hx hp h2)
  have HFR : Hid (∀ x' W, BAt W x' 0 (b.flat p.down) → Calls Tryz.prog 98 #[.pointer (some ⟨x', 0, none⟩), .agg #[.int .i64 p.flat.row, .int .i64 p.flat.col, .bool p.flat.down, .string p.word]] W (NatsPost W (b.fresh p))) := Lib.hid (fun x' W h => flatFresh_any b p n x' W hp h)
  have hpl := parts_len13 hp x
  have HRG := Lib.hid (parts_range hp hx)
  have hfl : (b.fresh p).length ≤ p.word.size := freshL_len _ _ _ _
  have h12 := hp.twelve
  have HSC : Hid (b.score p x = (b.parts p x).sum + if (b.fresh p).length = 7 then 50 else 0) := Lib.hid rfl
  clear ht hg hp hx
  generalize b.score p x = sc at *
  generalize b.parts p x = xs at *
  generalize b.fresh p = fr at *
  have HR : Hid (∀ k, k < xs.length → ∃ v : Int, 0 ≤ v ∧ v ≤ 382637520 ∧ (xs.take (k + 1)).sum = (xs.take k).sum + v ∧ ∀ (W : World) gx cx, W.ownsRow w.heap.size 2 1 (.slice (some ⟨gx, 0, none⟩) xs.length cx) xs.length (xs.flatMap I64.enc) → W.cell? ⟨gx, k, none⟩ = some (.int .i64 v)) := Lib.hid (fun k h => ⟨xs[k], (HRG.out _ (List.getElem_mem _)).1, (HRG.out _ (List.getElem_mem _)).2, sum_take_get h, fun W gx cx hx => num_row hx h⟩)
  go_enter Tryz.func89, Tryz.ntmps89
  go_upto_region 1 with fail
  generalize w.alloc (.cells #[.int .i64 p.row, .int .i64 p.col, .bool p.down, .string p.word] 30) = w1 at *
  have c0 := V0.out.cell (i := 0) rfl
  have c1 := V0.out.cell (i := 1) rfl
  have c2 := V0.out.cell (i := 2) rfl
  have c3 := V0.out.cell (i := 3) rfl
  go_wp2_with fail
  refine (l12Flat_any b p n g o _ HGD.out HG.out).mono ?_
  rintro e w4 ⟨rfl, hd⟩
  unfold flatV
  clear c0 c1 c2 c3 V0
  replace hb := hb.trans (hd.mono hb.size)
  replace HG := Lib.hid (HG.out.kept hd)
  clear hd
  generalize b.flat p.down = f at *
  generalize p.flat.row = fr0 at *
  generalize p.flat.col = fc at *
  generalize p.flat.down = fd at *
  have HF : Hid (BAt ((w4.alloc (.cells #[.int .i64 f.size, .string f.premium, .string f.cells] 25)).alloc (.cells #[.int .i64 fr0, .int .i64 fc, .bool fd, .string p.word] 30)) w4.heap.size 0 f) := Lib.hid ((BAt.new w4 f 25).kept ((Below.refl _ _).alloc (Nat.le_refl _) _))
  have HQ : Hid (VarAt ((w4.alloc (.cells #[.int .i64 f.size, .string f.premium, .string f.cells] 25)).alloc (.cells #[.int .i64 fr0, .int .i64 fc, .bool fd, .string p.word] 30)) (w4.heap.size + 1) 30 [.int .i64 fr0, .int .i64 fc, .bool fd, .string p.word]) := Lib.hid (by
    have := VarAt.new (w4.alloc (.cells #[.int .i64 f.size, .string f.premium, .string f.cells] 25)) 30 [.int .i64 fr0, .int .i64 fc, .bool fd, .string p.word]
    simp only [World.size_alloc] at this
    exact this)
  have hd : Below w4.heap.size w4 ((w4.alloc (.cells #[.int .i64 f.size, .string f.premium, .string f.cells] 25)).alloc (.cells #[.int .i64 fr0, .int .i64 fc, .bool fd, .string p.word] 30)) := ((Below.refl _ _).alloc (Nat.le_refl _) _).alloc (by simp) _
  replace hb := hb.trans (hd.mono hb.size)
  clear hd HG HGD
  go_upto_region 2 with fail
  generalize (w4.alloc (.cells #[.int .i64 f.size, .string f.premium, .string f.cells] 25)).alloc (.cells #[.int .i64 fr0, .int .i64 fc, .bool fd, .string p.word] 30) = w5 at *
  generalize w4.heap.size = gb at *
  have c0 := HQ.out.cell (i := 0) rfl
  have c1 := HQ.out.cell (i := 1) rfl
  have c2 := HQ.out.cell (i := 2) rfl
  have c3 := HQ.out.cell (i := 3) rfl
  have hz := hb.size
  go_wp2_with fail
  refine (HPA.out _ _ (HTT.out.kept hb) HF.out).mono ?_
  rintro e w6 ⟨gx, cx, rfl, hx0, hd⟩
  have HX := Lib.hid (own_mono hx0 (show w.heap.size ≤ _ by omega))
  clear hx0 c0 c1 c2 c3 HPA
  replace hb := hb.trans (hd.mono hb.size)
  replace HF := Lib.hid (HF.out.kept hd)
  replace HQ := Lib.hid (HQ.out.kept hd)
  clear hd
  generalize hxl : xs.length = m at *
  have HXL := Lib.hid hxl
  clear hxl
  go_wp2_with fail
  go_loopw [10, 11] (fun tv iv wr => ∃ (k : Nat) (t : Int), k ≤ m ∧ iv = .int .i64 k ∧ tv = .int .i64 t ∧ 0 ≤ t ∧ t ≤ 382637520 * k ∧ Hid (t = (xs.take k).sum) ∧ w6 = wr) (fun _ iv _ => m - (intOf iv).toNat)
  case atStart => exact ⟨0, 0, Nat.zero_le _, rfl, rfl, by omega, by omega, Lib.hid (by simp), by trivial⟩
  case round =>
    obtain ⟨k, t, hk, rfl, rfl, ht0, ht1, HT, hw⟩ := hrel
    subst hw
    by_cases hkm : k < m
    · obtain ⟨v, hv0, hv1, hvs, hvc⟩ := HR.out k hkm
      have cv := hvc _ _ _ HX.out
      have HT2 : Hid (t + v = (xs.take (k + 1)).sum) := Lib.hid (by rw [hvs, HT.out])
      have hw5 : IntKind.i64.wrap (t + v) = t + v := IntWalk.i64_in _ (by omega)
      clear hvs hvc HT
      go_wp2
      go_roundw
      case rel => exact ⟨k + 1, t + v, by omega, by go_num, rfl, by omega, by omega, HT2, by trivial⟩
      case measure => simp [intOf]; omega
    · obtain rfl : k = m := by omega
      have hT := HT.out
      rw [List.take_of_length_le (by rw [HXL.out]; exact Nat.le_refl _)] at hT
      have HTE := Lib.hid hT
      clear hT HT HR HRG HX
      have c0 := HQ.out.cell (i := 0) rfl
      have c1 := HQ.out.cell (i := 1) rfl
      have c2 := HQ.out.cell (i := 2) rfl
      have c3 := HQ.out.cell (i := 3) rfl
      go_wp2_with fail
      refine (HFR.out _ _ HF.out).mono ?_
      rintro e w7 ⟨gy, cy, rfl, hy0, hd⟩
      replace hb := hb.trans (hd.mono hb.size)
      clear hy0 hd c0 c1 c2 c3
      by_cases h7 : fr.length = 7
      · have HE : Hid (sc = t + 50) := Lib.hid (by rw [HSC.out, if_pos h7, HTE.out])
        have h7' : ((fr.length : Int) == 7) = true := by rw [beq_iff_eq]; omega
        have hw5 : IntKind.i64.wrap (t + 50) = t + 50 := IntWalk.i64_in _ (by omega)
        clear h7
        go_wp2
        go_ret
        exact ⟨by rw [HE.out]; rfl, hb⟩
      · have HE : Hid (sc = t) := Lib.hid (by rw [HSC.out, if_neg h7, HTE.out, Int.add_zero])
        have h7' : ((fr.length : Int) == 7) = false := by rw [beq_eq_false_iff_ne]; omega
        clear h7
        go_wp2
        go_ret
        exact ⟨by rw [HE.out]; rfl, hb⟩
end Go.Proofs.YtjdcdhhbgijaoaaGreatDoor

namespace Go.Proofs.YtjdcdhhbgijaoaaGreatDoor
open Go.ChangeShapes Go.WideShapes Go.ChangeAt Go.RowKit Go.Sort

/-- what ScorePlay returns -/
def ScorePost (b : Brd) (p : Ply) (x : Tls) (w : World) (e : Ending) (w' : World) : Prop :=
  (if x.ok && b.okPlay p then e = .returned (.tuple #[.int .i64 (b.score p x), .int .i64 0]) else e = .returned (.tuple #[.int .i64 0, .int .i64 1])) ∧ Below w.heap.size w w'
theorem score_no {b : Brd} {p : Ply} {x : Tls} {w : World} (h : (x.ok && b.okPlay p) = false) (e : Ending) (w' : World) (k : e = .returned (.tuple #[.int .i64 0, .int .i64 1]) ∧ Below w.heap.size w w') : ScorePost b p x w e w' := by
  unfold ScorePost
  rw [h]
  exact k
theorem score_yes {b : Brd} {p : Ply} {x : Tls} {w : World} (h1 : x.ok = true) (h2 : b.okPlay p = true) (e : Ending) (w' : World) (k : e = .returned (.tuple #[.int .i64 (b.score p x), .int .i64 0]) ∧ Below w.heap.size w w') : ScorePost b p x w e w' := by
  unfold ScorePost
  rw [h1, h2]
  exact k
/-- what ScoreParts returns -/
def PartsPost (b : Brd) (p : Ply) (x : Tls) (w : World) (e : Ending) (w' : World) : Prop :=
  if x.ok && b.okPlay p then ∃ g cap, e = .returned (.tuple #[.slice (some ⟨g, 0, none⟩) (b.parts p x).length cap, .int .i64 0]) ∧ w'.ownsRow w.heap.size 2 1 (.slice (some ⟨g, 0, none⟩) (b.parts p x).length cap) (b.parts p x).length ((b.parts p x).flatMap I64.enc) ∧ Below w.heap.size w w'
  else e = .returned (.tuple #[.slice none 0 0, .int .i64 1]) ∧ Below w.heap.size w w'
theorem partsP_no {b : Brd} {p : Ply} {x : Tls} {w : World} (h : (x.ok && b.okPlay p) = false) (e : Ending) (w' : World) (k : e = .returned (.tuple #[.slice none 0 0, .int .i64 1]) ∧ Below w.heap.size w w') : PartsPost b p x w e w' := by
  unfold PartsPost
  rw [h]
  exact k
theorem partsP_yes {b : Brd} {p : Ply} {x : Tls} {w : World} (h1 : x.ok = true) (h2 : b.okPlay p = true) (e : Ending) (w' : World) (k : ∃ g cap, e = .returned (.tuple #[.slice (some ⟨g, 0, none⟩) (b.parts p x).length cap, .int .i64 0]) ∧ w'.ownsRow w.heap.size 2 1 (.slice (some ⟨g, 0, none⟩) (b.parts p x).length cap) (b.parts p x).length ((b.parts p x).flatMap I64.enc) ∧ Below w.heap.size w w') : PartsPost b p x w e w' := by
  unfold PartsPost
  rw [h1, h2]
  exact k
set_option maxRecDepth 100000 in
set_option maxHeartbeats 4000000 in
theorem specScorePlay_any (x : Tls) (q : TlA) (b : Brd) (p : Ply) (w : World) (ha : x.At q w) (hft : x.fit) (hf : b.fit) (hp : p.fit) :
    Calls Tryz.prog 23 #[.agg #[.string x.letters, .slice q.values.a x.values.length q.values.c, .slice q.counts.a x.counts.length q.counts.c, .int .i64 x.blanks], .agg #[.int .i64 b.size, .string b.premium, .string b.cells], .agg #[.int .i64 p.row, .int .i64 p.col, .bool p.down, .string p.word]] w (ScorePost b p x w) := by
  obtain ⟨w2, hw2⟩ : ∃ w2, w2 = ((w.alloc (.cells #[.string x.letters, .slice q.values.a x.values.length q.values.c, .slice q.counts.a x.counts.length q.counts.c, .int .i64 x.blanks] 44)).alloc (.cells #[.int .i64 b.size, .string b.premium, .string b.cells] 25)).alloc (.cells #[.int .i64 p.row, .int .i64 p.col, .bool p.down, .string p.word] 30) := ⟨_, rfl⟩
  have hb : Below w.heap.size w w2 := by rw [hw2]; exact (((Below.refl _ _).alloc (Nat.le_refl _) _).alloc (by simp) _).alloc (by simp; omega) _
  have HT : Hid (TAt w2 w.heap.size x q) := by
    rw [hw2]
    exact Lib.hid (((TAt.new w x q 44 ha).kept ((Below.refl _ _).alloc (Nat.le_refl _) _)).kept ((Below.refl _ _).alloc (Nat.le_refl _) _))
  have HG : Hid (BAt w2 (w.heap.size + 1) 0 b) := by
    rw [hw2]
    have := (BAt.new (w.alloc (.cells #[.string x.letters, .slice q.values.a x.values.length q.values.c, .slice q.counts.a x.counts.length q.counts.c, .int .i64 x.blanks] 44)) b 25).kept ((Below.refl _ _).alloc (Nat.le_refl _) (.cells #[.int .i64 p.row, .int .i64 p.col, .bool p.down, .string p.word] 30))
    simp only [World.size_alloc] at this
    exact Lib.hid this
  have V0 : Hid (VarAt w2 (w.heap.size + 2) 30 [.int .i64 p.row, .int .i64 p.col, .bool p.down, .string p.word]) := by
    rw [hw2]
    have := VarAt.new ((w.alloc (.cells #[.string x.letters, .slice q.values.a x.values.length q.values.c, .slice q.counts.a x.counts.length q.counts.c, .int .i64 x.blanks] 44)).alloc (.cells #[.int .i64 b.size, .string b.premium, .string b.cells] 25)) 30 [.int .i64 p.row, .int .i64 p.col, .bool p.down, .string p.word]
    simp only [World.size_alloc] at this
    exact Lib.hid this
  have HW2 := Lib.hid hw2
  clear hw2 ha
  have HOK : Hid (∀ W, TAt W w.heap.size x q → Calls Tryz.prog 88 #[.pointer (some ⟨w.heap.size, 0, none⟩)] W fun e w' => e = .returned (.bool x.ok) ∧ Drew W w') := Lib.hid (fun W h => l02Ok_any x q _ W h hft)
  cases hlx : x.ok with
  | false =>
    refine Calls.mono (R := fun e w' => e = .returned (.tuple #[.int .i64 0, .int .i64 1]) ∧ Below w.heap.size w w') ?_ (score_no (by rw [hlx]; rfl))
    rw [hlx] at HOK
    go_enter Tryz.func23, Tryz.ntmps23
    go_upto_region 1 with fail
    rw [← HW2.out]
    clear HW2 hlx
    go_wp2_with fail
    refine (HOK.out _ HT.out).mono ?_
    rintro e w3 ⟨rfl, hdq⟩
    have hd := hdq.bels
    have hb2 := hb.trans (hd.mono hb.size)
    clear hd hdq
    go_wp2
    go_ret2
    exact ⟨rfl, hb2⟩
  | true =>
    cases hk : b.okPlay p with
    | false =>
      refine Calls.mono (R := fun e w' => e = .returned (.tuple #[.int .i64 0, .int .i64 1]) ∧ Below w.heap.size w w') ?_ (score_no (by rw [hk, Bool.and_false]))
      rw [hlx] at HOK
      go_enter Tryz.func23, Tryz.ntmps23
      go_upto_region 1 with fail
      rw [← HW2.out]
      clear HW2 hlx
      go_wp2_with fail
      refine (HOK.out _ HT.out).mono ?_
      rintro e w3 ⟨rfl, hdq⟩
      have hd := hdq.bels
      clear hdq
      replace hb := hb.trans (hd.mono hb.size)
      replace HG := Lib.hid (HG.out.kept hd)
      replace V0 := Lib.hid (V0.out.kept hd)
      clear hd
      have c0 := V0.out.cell (i := 0) rfl
      have c1 := V0.out.cell (i := 1) rfl
      have c2 := V0.out.cell (i := 2) rfl
      have c3 := V0.out.cell (i := 3) rfl
      go_wp2_with fail
      refine (l12Ok_any b p _ 0 _ HG.out hf hp).mono ?_
      rintro e w4 ⟨rfl, hd⟩
      rw [hk]
      have hb2 := hb.trans (hd.mono hb.size)
      clear hd hk
      go_wp2
      go_ret2
      exact ⟨rfl, hb2⟩
    | true =>
      obtain ⟨n, hpg⟩ := okPlay_good hk
      have HPG := Lib.hid hpg
      have HX := Lib.hid (Tls.good hlx)
      clear hpg
      refine Calls.mono (R := fun e w' => e = .returned (.tuple #[.int .i64 (b.score p x), .int .i64 0]) ∧ Below w.heap.size w w') ?_ (score_yes hlx hk)
      rw [hlx] at HOK
      go_enter Tryz.func23, Tryz.ntmps23
      go_upto_region 1 with fail
      rw [← HW2.out]
      clear HW2 hlx
      go_wp2_with fail
      refine (HOK.out _ HT.out).mono ?_
      rintro e w3 ⟨rfl, hdq⟩
      have hd := hdq.bels
      clear hdq
      replace hb := hb.trans (hd.mono hb.size)
      replace HG := Lib.hid (HG.out.kept hd)
      replace V0 := Lib.hid (V0.out.kept hd)
      replace HT := Lib.hid (HT.out.kept hd)
      clear hd
      have c0 := V0.out.cell (i := 0) rfl
      have c1 := V0.out.cell (i := 1) rfl
      have c2 := V0.out.cell (i := 2) rfl
      have c3 := V0.out.cell (i := 3) rfl
      go_wp2_with fail
      refine (l12Ok_any b p _ 0 _ HG.out hf hp).mono ?_
      rintro e w4 ⟨rfl, hd⟩
      rw [hk]
      clear hk
      replace hb := hb.trans (hd.mono hb.size)
      replace c0 := cell_kept c0 hd
      replace c1 := cell_kept c1 hd
      replace c2 := cell_kept c2 hd
      replace c3 := cell_kept c3 hd
      replace HG := Lib.hid (HG.out.kept hd)
      replace HT := Lib.hid (HT.out.kept hd)
      clear hd
      have hz := hb.size
      go_wp2_with fail
      refine (l13Score_any x q _ b p n _ 0 _ HT.out HX.out HG.out HPG.out).mono ?_
      rintro e w5 ⟨rfl, hd⟩
      have hb2 := hb.trans (hd.mono hb.size)
      clear hd c0 c1 c2 c3
      go_wp2
      go_ret2
      exact ⟨rfl, hb2⟩
set_option maxRecDepth 100000 in
set_option maxHeartbeats 4000000 in
theorem specScoreParts_any (x : Tls) (q : TlA) (b : Brd) (p : Ply) (w : World) (ha : x.At q w) (hft : x.fit) (hf : b.fit) (hp : p.fit) :
    Calls Tryz.prog 25 #[.agg #[.string x.letters, .slice q.values.a x.values.length q.values.c, .slice q.counts.a x.counts.length q.counts.c, .int .i64 x.blanks], .agg #[.int .i64 b.size, .string b.premium, .string b.cells], .agg #[.int .i64 p.row, .int .i64 p.col, .bool p.down, .string p.word]] w (PartsPost b p x w) := by
  obtain ⟨w2, hw2⟩ : ∃ w2, w2 = ((w.alloc (.cells #[.string x.letters, .slice q.values.a x.values.length q.values.c, .slice q.counts.a x.counts.length q.counts.c, .int .i64 x.blanks] 44)).alloc (.cells #[.int .i64 b.size, .string b.premium, .string b.cells] 25)).alloc (.cells #[.int .i64 p.row, .int .i64 p.col, .bool p.down, .string p.word] 30) := ⟨_, rfl⟩
  have hb : Below w.heap.size w w2 := by rw [hw2]; exact (((Below.refl _ _).alloc (Nat.le_refl _) _).alloc (by simp) _).alloc (by simp; omega) _
  have HT : Hid (TAt w2 w.heap.size x q) := by
    rw [hw2]
    exact Lib.hid (((TAt.new w x q 44 ha).kept ((Below.refl _ _).alloc (Nat.le_refl _) _)).kept ((Below.refl _ _).alloc (Nat.le_refl _) _))
  have HG : Hid (BAt w2 (w.heap.size + 1) 0 b) := by
    rw [hw2]
    have := (BAt.new (w.alloc (.cells #[.string x.letters, .slice q.values.a x.values.length q.values.c, .slice q.counts.a x.counts.length q.counts.c, .int .i64 x.blanks] 44)) b 25).kept ((Below.refl _ _).alloc (Nat.le_refl _) (.cells #[.int .i64 p.row, .int .i64 p.col, .bool p.down, .string p.word] 30))
    simp only [World.size_alloc] at this
    exact Lib.hid this
  have V0 : Hid (VarAt w2 (w.heap.size + 2) 30 [.int .i64 p.row, .int .i64 p.col, .bool p.down, .string p.word]) := by
    rw [hw2]
    have := VarAt.new ((w.alloc (.cells #[.string x.letters, .slice q.values.a x.values.length q.values.c, .slice q.counts.a x.counts.length q.counts.c, .int .i64 x.blanks] 44)).alloc (.cells #[.int .i64 b.size, .string b.premium, .string b.cells] 25)) 30 [.int .i64 p.row, .int .i64 p.col, .bool p.down, .string p.word]
    simp only [World.size_alloc] at this
    exact Lib.hid this
  have HW2 := Lib.hid hw2
  clear hw2 ha
  have HOK : Hid (∀ W, TAt W w.heap.size x q → Calls Tryz.prog 88 #[.pointer (some ⟨w.heap.size, 0, none⟩)] W fun e w' => e = .returned (.bool x.ok) ∧ Drew W w') := Lib.hid (fun W h => l02Ok_any x q _ W h hft)
  cases hlx : x.ok with
  | false =>
    refine Calls.mono (R := fun e w' => e = .returned (.tuple #[.slice none 0 0, .int .i64 1]) ∧ Below w.heap.size w w') ?_ (partsP_no (by rw [hlx]; rfl))
    rw [hlx] at HOK
    go_enter Tryz.func25, Tryz.ntmps25
    go_upto_region 1 with fail
    rw [← HW2.out]
    clear HW2 hlx
    go_wp2_with fail
    refine (HOK.out _ HT.out).mono ?_
    rintro e w3 ⟨rfl, hdq⟩
    have hd := hdq.bels
    have hb2 := hb.trans (hd.mono hb.size)
    clear hd hdq
    go_wp2
    go_ret2
    exact ⟨rfl, hb2⟩
  | true =>
    cases hk : b.okPlay p with
    | false =>
      refine Calls.mono (R := fun e w' => e = .returned (.tuple #[.slice none 0 0, .int .i64 1]) ∧ Below w.heap.size w w') ?_ (partsP_no (by rw [hk, Bool.and_false]))
      rw [hlx] at HOK
      go_enter Tryz.func25, Tryz.ntmps25
      go_upto_region 1 with fail
      rw [← HW2.out]
      clear HW2 hlx
      go_wp2_with fail
      refine (HOK.out _ HT.out).mono ?_
      rintro e w3 ⟨rfl, hdq⟩
      have hd := hdq.bels
      clear hdq
      replace hb := hb.trans (hd.mono hb.size)
      replace HG := Lib.hid (HG.out.kept hd)
      replace V0 := Lib.hid (V0.out.kept hd)
      clear hd
      have c0 := V0.out.cell (i := 0) rfl
      have c1 := V0.out.cell (i := 1) rfl
      have c2 := V0.out.cell (i := 2) rfl
      have c3 := V0.out.cell (i := 3) rfl
      go_wp2_with fail
      refine (l12Ok_any b p _ 0 _ HG.out hf hp).mono ?_
      rintro e w4 ⟨rfl, hd⟩
      rw [hk]
      have hb2 := hb.trans (hd.mono hb.size)
      clear hd hk
      go_wp2
      go_ret2
      exact ⟨rfl, hb2⟩
    | true =>
      obtain ⟨n, hpg⟩ := okPlay_good hk
      have HPG := Lib.hid hpg
      have HX := Lib.hid (Tls.good hlx)
      clear hpg
      have HPA : Hid (∀ x' W, TAt W w.heap.size x q → BAt W x' 0 (b.flat p.down) → Calls Tryz.prog 92 #[.pointer (some ⟨w.heap.size, 0, none⟩), .pointer (some ⟨x', 0, none⟩), .agg #[.int .i64 p.flat.row, .int .i64 p.flat.col, .bool p.flat.down, .string p.word]] W (NumsPost W (b.parts p x))) := Lib.hid (fun x' W h1 h2 => flatParts_any x q _ b p n x' W h1 HX.out HPG.out h2)
      refine Calls.mono (R := fun e w' => ∃ g cap, e = .returned (.tuple #[.slice (some ⟨g, 0, none⟩) (b.parts p x).length cap, .int .i64 0]) ∧ w'.ownsRow w.heap.size 2 1 (.slice (some ⟨g, 0, none⟩) (b.parts p x).length cap) (b.parts p x).length ((b.parts p x).flatMap I64.enc) ∧ Below w.heap.size w w') ?_ (partsP_yes hlx hk)
      generalize b.parts p x = xs at *
      rw [hlx] at HOK
      go_enter Tryz.func25, Tryz.ntmps25
      go_upto_region 1 with fail
      rw [← HW2.out]
      clear HW2 hlx
      go_wp2_with fail
      refine (HOK.out _ HT.out).mono ?_
      rintro e w3 ⟨rfl, hdq⟩
      have hd := hdq.bels
      clear hdq
      replace hb := hb.trans (hd.mono hb.size)
      replace HG := Lib.hid (HG.out.kept hd)
      replace V0 := Lib.hid (V0.out.kept hd)
      replace HT := Lib.hid (HT.out.kept hd)
      clear hd
      have c0 := V0.out.cell (i := 0) rfl
      have c1 := V0.out.cell (i := 1) rfl
      have c2 := V0.out.cell (i := 2) rfl
      have c3 := V0.out.cell (i := 3) rfl
      go_wp2_with fail
      refine (l12Ok_any b p _ 0 _ HG.out hf hp).mono ?_
      rintro e w4 ⟨rfl, hd⟩
      rw [hk]
      clear hk
      replace hb := hb.trans (hd.mono hb.size)
      replace c0 := cell_kept c0 hd
      replace c1 := cell_kept c1 hd
      replace c2 := cell_kept c2 hd
      replace c3 := cell_kept c3 hd
      replace HG := Lib.hid (HG.out.kept hd)
      replace HT := Lib.hid (HT.out.kept hd)
      clear hd
      have hz := hb.size
      go_wp2_with fail
      refine (l12Flat_any b p n _ 0 _ HPG.out.good HG.out).mono ?_
      rintro e w5 ⟨rfl, hd⟩
      unfold flatV
      clear c0 c1 c2 c3
      replace hb := hb.trans (hd.mono hb.size)
      replace HT := Lib.hid (HT.out.kept hd)
      clear hd
      generalize b.flat p.down = f at *
      generalize p.flat.row = fr0 at *
      generalize p.flat.col = fc at *
      generalize p.flat.down = fd at *
      have HF : Hid (BAt ((w5.alloc (.cells #[.int .i64 f.size, .string f.premium, .string f.cells] 25)).alloc (.cells #[.int .i64 fr0, .int .i64 fc, .bool fd, .string p.word] 30)) w5.heap.size 0 f) := Lib.hid ((BAt.new w5 f 25).kept ((Below.refl _ _).alloc (Nat.le_refl _) _))
      have hd : Below w5.heap.size w5 ((w5.alloc (.cells #[.int .i64 f.size, .string f.premium, .string f.cells] 25)).alloc (.cells #[.int .i64 fr0, .int .i64 fc, .bool fd, .string p.word] 30)) := ((Below.refl _ _).alloc (Nat.le_refl _) _).alloc (by simp) _
      replace hb := hb.trans (hd.mono hb.size)
      replace HT := Lib.hid (HT.out.kept hd)
      clear hd
      have hz5 := hb.size
      go_wp2_with fail
      refine (HPA.out _ _ HT.out HF.out).mono ?_
      rintro e w6 ⟨g1, cap1, rfl, hown, hd⟩
      have HO := Lib.hid (own_mono hown (show w.heap.size ≤ _ by omega))
      have hb2 := hb.trans (hd.mono hb.size)
      clear hown hd
      go_wp2
      go_ret2
      exact ⟨g1, cap1, rfl, HO.out, hb2⟩
end Go.Proofs.YtjdcdhhbgijaoaaGreatDoor
