/- Contracts: the comparisons of plays and of scored plays: the program and the reference. No · Contracts: the statements' own functions of TileSet (sz, to, eq). No condition but that a  · Contracts: the program's comparison of plays and of scored plays. No condition. -/
import Derived.Test.YtjdcdhhbgijaoaaGreatDoorPoP
import Derived.Test.YtjdcdhhbgijaoaaGreatDoorVar
import Derived.StillTailTactics
import Derived.Test.YtjdcdhhbgijaoaaGreatDoorFrame
import Derived.Test.YtjdcdhhbgijaoaaGreatDoorBrA
import Derived.Lib.IndexLaws
import Derived.Test.YtjdcdhhbgijaoaaGreatDoorShq
import Derived.Test.YtjdcdhhbgijaoaaGreatDoorLex
namespace Go.Proofs.YtjdcdhhbgijaoaaGreatDoor
open Go.ChangeShapes Go.WideShapes Go.ChangeAt Go.RowKit Go.Sort

theorem text_cases (a b : ByteArray) : (Op.bytesLess a.toList b.toList = true ∧ sgnT a b = -1) ∨ (Op.bytesLess a.toList b.toList = false ∧ (a.toList == b.toList) = false ∧ sgnT a b = 1) ∨ (Op.bytesLess a.toList b.toList = false ∧ (a.toList == b.toList) = true ∧ sgnT a b = 0) := by
  unfold sgnT
  cases h1 : Op.bytesLess a.toList b.toList with
  | true => exact .inl ⟨rfl, by simp⟩
  | false =>
    cases h2 : Op.bytesLess b.toList a.toList with
    | true => exact .inr (.inl ⟨rfl, (less_no h2).2, by simp⟩)
    | false =>
      refine .inr (.inr ⟨rfl, ?_, by simp⟩)
      rw [bytesLess_eq, decide_eq_false_iff_not] at h1 h2
      rw [beq_iff_eq]
      exact List.le_antisymm (List.not_lt.1 h2) (List.not_lt.1 h1)
theorem cmpNaNI_any (x : Int) (w : World) : Calls Tryz.prog 214 #[.int .i64 x] w fun e w' => e = .returned (.bool false) ∧ w = w' := by
  go_enter Tryz.func214, Tryz.ntmps214
  go_wp2
  go_ret
  exact ⟨by simp, rfl⟩
theorem cmpNaNT_any (x : ByteArray) (w : World) : Calls Tryz.prog 215 #[.string x] w fun e w' => e = .returned (.bool false) ∧ w = w' := by
  go_enter Tryz.func215, Tryz.ntmps215
  go_wp2
  go_ret
  exact ⟨by simp, rfl⟩
set_option maxHeartbeats 1000000 in
theorem cmpInt_any (a b : Int) (w : World) : Calls Tryz.prog 134 #[.int .i64 a, .int .i64 b] w fun e w' => e = .returned (.int .i64 (sgnI a b)) ∧ w' = w := by
  have H : (a < b ∧ sgnI a b = -1) ∨ (¬ a < b ∧ b < a ∧ sgnI a b = 1) ∨ (¬ a < b ∧ ¬ b < a ∧ sgnI a b = 0) := by
    unfold sgnI
    by_cases h1 : a < b
    · exact .inl ⟨h1, if_pos h1⟩
    · by_cases h2 : b < a
      · exact .inr (.inl ⟨h1, h2, by rw [if_neg h1, if_pos h2]⟩)
      · exact .inr (.inr ⟨h1, h2, by rw [if_neg h1, if_neg h2]⟩)
  generalize sgnI a b = r at *
  go_enter Tryz.func134, Tryz.ntmps134
  go_wp2_with fail
  refine (cmpNaNI_any a _).mono ?_
  rintro e w' ⟨rfl, rfl⟩
  go_wp2_with fail
  refine (cmpNaNI_any b _).mono ?_
  rintro e w' ⟨rfl, rfl⟩
  rcases H with ⟨h1, rfl⟩ | ⟨h1, h2, rfl⟩ | ⟨h1, h2, rfl⟩
  · go_wp2
    go_ret
    exact ⟨rfl, rfl⟩
  · go_wp2
    go_ret
    exact ⟨rfl, rfl⟩
  · go_wp2
    go_ret
    exact ⟨rfl, rfl⟩
set_option maxHeartbeats 1000000 in
theorem cmpText_any (a b : ByteArray) (w : World) : Calls Tryz.prog 135 #[.string a, .string b] w fun e w' => e = .returned (.int .i64 (sgnT a b)) ∧ w' = w := by
  have H := text_cases a b
  generalize sgnT a b = r at *
  go_enter Tryz.func135, Tryz.ntmps135
  go_wp2_with fail
  refine (cmpNaNT_any a _).mono ?_
  rintro e w' ⟨rfl, rfl⟩
  go_wp2_with fail
  refine (cmpNaNT_any b _).mono ?_
  rintro e w' ⟨rfl, rfl⟩
  rcases H with ⟨h1, rfl⟩ | ⟨h1, h2, rfl⟩ | ⟨h1, h2, rfl⟩
  · go_wp2
    go_ret
    exact ⟨rfl, rfl⟩
  · go_wp2
    go_ret
    exact ⟨rfl, rfl⟩
  · go_wp2
    go_ret
    exact ⟨rfl, rfl⟩
theorem l12Sign_any (a b : Int) (w : World) : Calls Tryz.prog 202 #[.int .i64 a, .int .i64 b] w fun e w' => e = .returned (.int .i64 (sgnI a b)) ∧ w' = w := by
  have H : (a < b ∧ sgnI a b = -1) ∨ (¬ a < b ∧ b < a ∧ sgnI a b = 1) ∨ (¬ a < b ∧ ¬ b < a ∧ sgnI a b = 0) := by
    unfold sgnI
    by_cases h1 : a < b
    · exact .inl ⟨h1, if_pos h1⟩
    · by_cases h2 : b < a
      · exact .inr (.inl ⟨h1, h2, by rw [if_neg h1, if_pos h2]⟩)
      · exact .inr (.inr ⟨h1, h2, by rw [if_neg h1, if_neg h2]⟩)
  generalize sgnI a b = r at *
  rcases H with ⟨h1, rfl⟩ | ⟨h1, h2, rfl⟩ | ⟨h1, h2, rfl⟩
  all_goals
    go_enter Tryz.func202, Tryz.ntmps202
    go_wp2
    go_ret
    exact ⟨rfl, rfl⟩
/-- two plays lie in two variables -/
theorem cmp0 {a b : Ply} (h : a.down = false) (h2 : b.down = true) : a.cmp b = -1 := by unfold Ply.cmp; rw [h, h2]; rfl
theorem cmp1 {a b : Ply} (h : a.down = true) (h2 : b.down = false) : a.cmp b = 1 := by unfold Ply.cmp; rw [h, h2]; rfl
theorem cmp2 {a b : Ply} (h : a.down = b.down) (h2 : ¬ a.row = b.row) : a.cmp b = sgnI a.row b.row := by unfold Ply.cmp; rw [if_pos h, if_neg h2]
theorem cmp3 {a b : Ply} (h : a.down = b.down) (h2 : a.row = b.row) (h3 : ¬ a.col = b.col) : a.cmp b = sgnI a.col b.col := by unfold Ply.cmp; rw [if_pos h, if_pos h2, if_neg h3]
theorem cmp4 {a b : Ply} (h : a.down = b.down) (h2 : a.row = b.row) (h3 : a.col = b.col) : a.cmp b = sgnT a.word b.word := by unfold Ply.cmp; rw [if_pos h, if_pos h2, if_pos h3]
set_option maxRecDepth 100000 in
set_option maxHeartbeats 4000000 in
theorem l12Compare_any (a b : Ply) (w : World) :
    Calls Tryz.prog 114 #[.agg #[.int .i64 a.row, .int .i64 a.col, .bool a.down, .string a.word], .agg #[.int .i64 b.row, .int .i64 b.col, .bool b.down, .string b.word]] w fun e w' => e = .returned (.int .i64 (a.cmp b)) ∧ Below w.heap.size w w' := by
  obtain ⟨w2, hw2⟩ : ∃ w2, w2 = (w.alloc (.cells #[.int .i64 a.row, .int .i64 a.col, .bool a.down, .string a.word] 30)).alloc (.cells #[.int .i64 b.row, .int .i64 b.col, .bool b.down, .string b.word] 30) := ⟨_, rfl⟩
  have hb : Below w.heap.size w w2 := by rw [hw2]; exact ((Below.refl _ _).alloc (Nat.le_refl _) _).alloc (by simp) _
  have VA : Hid (VarAt w2 w.heap.size 30 [.int .i64 a.row, .int .i64 a.col, .bool a.down, .string a.word]) := by
    rw [hw2]
    exact Lib.hid ((VarAt.new w 30 [.int .i64 a.row, .int .i64 a.col, .bool a.down, .string a.word]).kept ((Below.refl _ _).alloc (Nat.le_refl _) _))
  have VB : Hid (VarAt w2 (w.heap.size + 1) 30 [.int .i64 b.row, .int .i64 b.col, .bool b.down, .string b.word]) := by
    rw [hw2]
    have := VarAt.new (w.alloc (.cells #[.int .i64 a.row, .int .i64 a.col, .bool a.down, .string a.word] 30)) 30 [.int .i64 b.row, .int .i64 b.col, .bool b.down, .string b.word]
    simp only [World.size_alloc] at this
    exact Lib.hid this
  have HW2 := Lib.hid hw2
  clear hw2
  go_enter Tryz.func114, Tryz.ntmps114
  go_upto_region 1 with fail
  rw [← HW2.out]
  clear HW2
  have a0 := VA.out.cell (i := 0) rfl
  have a1 := VA.out.cell (i := 1) rfl
  have a2 := VA.out.cell (i := 2) rfl
  have a3 := VA.out.cell (i := 3) rfl
  have b0 := VB.out.cell (i := 0) rfl
  have b1 := VB.out.cell (i := 1) rfl
  have b2 := VB.out.cell (i := 2) rfl
  have b3 := VB.out.cell (i := 3) rfl
  cases ha : a.down with
  | false =>
    cases hd : b.down with
    | false =>
      have HD := Lib.hid (ha.trans hd.symm)
      rw [ha] at a2
      rw [hd] at b2
      clear ha hd
      by_cases h2 : a.row = b.row
      case neg =>
        have HC := Lib.hid (cmp2 HD.out h2)
        have HS := Lib.hid (l12Sign_any a.row b.row)
        have e2 : (a.row != b.row) = true := by rw [bne_iff_ne]; exact h2
        clear h2
        generalize sgnI a.row b.row = r2 at *
        go_wp2_with fail
        refine (HS.out _).mono ?_
        rintro e w' ⟨rfl, rfl⟩
        go_wp2
        go_ret
        exact ⟨by rw [HC.out]; rfl, hb⟩
      case pos =>
        by_cases h3 : a.col = b.col
        case neg =>
          have HC := Lib.hid (cmp3 HD.out h2 h3)
          have HS := Lib.hid (l12Sign_any a.col b.col)
          have e2 : (a.row != b.row) = false := by rw [h2]; simp
          have e3 : (a.col != b.col) = true := by rw [bne_iff_ne]; exact h3
          clear h2 h3
          generalize sgnI a.col b.col = r2 at *
          go_wp2_with fail
          refine (HS.out _).mono ?_
          rintro e w' ⟨rfl, rfl⟩
          go_wp2
          go_ret
          exact ⟨by rw [HC.out]; rfl, hb⟩
        case pos =>
          have HC := Lib.hid (cmp4 HD.out h2 h3)
          have HT := Lib.hid (text_cases a.word b.word)
          have e2 : (a.row != b.row) = false := by rw [h2]; simp
          have e3 : (a.col != b.col) = false := by rw [h3]; simp
          clear h2 h3
          generalize sgnT a.word b.word = r2 at *
          rcases HT.out with ⟨t1, rfl⟩ | ⟨t1, t2, rfl⟩ | ⟨t1, t2, rfl⟩
          · clear HT
            go_wp2
            go_ret
            exact ⟨by rw [HC.out]; rfl, hb⟩
          · clear HT
            go_wp2
            go_ret
            exact ⟨by rw [HC.out]; rfl, hb⟩
          · clear HT
            go_wp2
            go_ret
            exact ⟨by rw [HC.out]; rfl, hb⟩
    | true =>
      have HC := Lib.hid (cmp0 ha hd)
      rw [ha] at a2
      rw [hd] at b2
      clear ha hd
      go_wp2
      go_ret
      exact ⟨by rw [HC.out]; rfl, hb⟩
  | true =>
    cases hd : b.down with
    | false =>
      have HC := Lib.hid (cmp1 ha hd)
      rw [ha] at a2
      rw [hd] at b2
      clear ha hd
      go_wp2
      go_ret
      exact ⟨by rw [HC.out]; rfl, hb⟩
    | true =>
      have HD := Lib.hid (ha.trans hd.symm)
      rw [ha] at a2
      rw [hd] at b2
      clear ha hd
      by_cases h2 : a.row = b.row
      case neg =>
        have HC := Lib.hid (cmp2 HD.out h2)
        have HS := Lib.hid (l12Sign_any a.row b.row)
        have e2 : (a.row != b.row) = true := by rw [bne_iff_ne]; exact h2
        clear h2
        generalize sgnI a.row b.row = r2 at *
        go_wp2_with fail
        refine (HS.out _).mono ?_
        rintro e w' ⟨rfl, rfl⟩
        go_wp2
        go_ret
        exact ⟨by rw [HC.out]; rfl, hb⟩
      case pos =>
        by_cases h3 : a.col = b.col
        case neg =>
          have HC := Lib.hid (cmp3 HD.out h2 h3)
          have HS := Lib.hid (l12Sign_any a.col b.col)
          have e2 : (a.row != b.row) = false := by rw [h2]; simp
          have e3 : (a.col != b.col) = true := by rw [bne_iff_ne]; exact h3
          clear h2 h3
          generalize sgnI a.col b.col = r2 at *
          go_wp2_with fail
          refine (HS.out _).mono ?_
          rintro e w' ⟨rfl, rfl⟩
          go_wp2
          go_ret
          exact ⟨by rw [HC.out]; rfl, hb⟩
        case pos =>
          have HC := Lib.hid (cmp4 HD.out h2 h3)
          have HT := Lib.hid (text_cases a.word b.word)
          have e2 : (a.row != b.row) = false := by rw [h2]; simp
          have e3 : (a.col != b.col) = false := by rw [h3]; simp
          clear h2 h3
          generalize sgnT a.word b.word = r2 at *
          rcases HT.out with ⟨t1, rfl⟩ | ⟨t1, t2, rfl⟩ | ⟨t1, t2, rfl⟩
          · clear HT
            go_wp2
            go_ret
            exact ⟨by rw [HC.out]; rfl, hb⟩
          · clear HT
            go_wp2
            go_ret
            exact ⟨by rw [HC.out]; rfl, hb⟩
          · clear HT
            go_wp2
            go_ret
            exact ⟨by rw [HC.out]; rfl, hb⟩
end Go.Proofs.YtjdcdhhbgijaoaaGreatDoor
namespace Go.Proofs.YtjdcdhhbgijaoaaGreatDoor
open Go.ChangeShapes Go.WideShapes Go.ChangeAt Go.RowKit Go.Sort

structure Tls where
  letters : ByteArray
  values : List Int
  counts : List Int
  blanks : Int
/-- where its rows lie -/
structure TlA where
  values : Rwa
  counts : Rwa
def Tls.At (x : Tls) (p : TlA) (w : World) : Prop := SliceAt w 1 I64.enc p.values.a x.values ∧ SliceAt w 1 I64.enc p.counts.a x.counts
theorem Tls.At.kept {x : Tls} {p : TlA} {w w' : World} (h : x.At p w) (hb : Below w.heap.size w w') : x.At p w' := ⟨h.1.kept hb, h.2.kept hb⟩
/-- its rows are of the call's own -/
def Tls.Own (x : Tls) (p : TlA) (base : Nat) (w : World) : Prop := w.ownsRow base 2 1 (.slice p.values.a x.values.length p.values.c) x.values.length (x.values.flatMap I64.enc) ∧ w.ownsRow base 2 1 (.slice p.counts.a x.counts.length p.counts.c) x.counts.length (x.counts.flatMap I64.enc)
theorem Tls.Own.at {x : Tls} {p : TlA} {base : Nat} {w : World} (h : x.Own p base w) : x.At p w := ⟨own_slice I64.enc_len h.1 rfl, own_slice I64.enc_len h.2 rfl⟩
theorem Tls.Own.kept {x : Tls} {p : TlA} {base : Nat} {w w' : World} (h : x.Own p base w) (hb : Below w.heap.size w w') : x.Own p base w' := ⟨own_below h.1 hb, own_below h.2 hb⟩
theorem Tls.Own.mono {x : Tls} {p : TlA} {base base' : Nat} {w : World} (h : x.Own p base w) (hb : base' ≤ base) : x.Own p base' w := ⟨own_mono h.1 hb, own_mono h.2 hb⟩
theorem Tls.Own.store {x : Tls} {p : TlA} {base g : Nat} {w w' : World} (h : x.Own p base w) (hg : w.grownBy w' (some g)) (hlt : g < base) : x.Own p base w' := ⟨row_store h.1 hg hlt, row_store h.2 hg hlt⟩
def Tls.fit (x : Tls) : Prop := x.letters.size ≤ 9223372036854775807 ∧ x.values.length ≤ 9223372036854775807 ∧ x.counts.length ≤ 9223372036854775807
def Tls.sz (x : Tls) : Nat := x.letters.size + x.values.length + x.counts.length
def Tls.small (x : Tls) : Prop := x.values.length ≤ 1048576 ∧ x.counts.length ≤ 1048576
end Go.Proofs.YtjdcdhhbgijaoaaGreatDoor

namespace Go.Proofs.YtjdcdhhbgijaoaaGreatDoor
open Go.ChangeShapes Go.WideShapes Go.ChangeAt Go.RowKit Go.Sort

theorem all_range_get {f : Nat → Bool} {n : Nat} (h : (List.range n).all f = true) {i : Nat} (hi : i < n) : f i = true := List.all_eq_true.1 h i (List.mem_range.2 hi)
def lowAt (l : List UInt8) (i : Nat) : Bool := smallB ((l.getD i 0).toNat : Int)
/-- a byte is greater than the one before -/
def incB (l : List UInt8) (i : Nat) : Bool := decide (i = 0) || decide (((l.getD (i - 1) 0).toNat : Int) < ((l.getD i 0).toNat : Int))
def Tls.okAt (x : Tls) (i : Nat) : Bool := lowAt x.letters.data.toList i && (incB x.letters.data.toList i && (withinB (x.values.getD i 0) 0 20 && withinB (x.counts.getD i 0) 1 20))
def Tls.ok (x : Tls) : Bool :=
  withinB x.letters.size 1 26 && (decide (x.values.length = x.letters.size) && (decide (x.counts.length = x.letters.size) && (withinB x.blanks 0 4 && ((List.range x.letters.size).all x.okAt && decide (x.blanks + x.counts.sum ≤ 120)))))
structure Tls.Good (x : Tls) : Prop where
  lo : 1 ≤ x.letters.size
  hi : x.letters.size ≤ 26
  values : x.values.length = x.letters.size
  counts : x.counts.length = x.letters.size
  range : ∀ i, i < x.letters.size → 0 ≤ x.values.getD i 0 ∧ x.values.getD i 0 ≤ 20
theorem Tls.good {x : Tls} (h : x.ok = true) : x.Good := by
  unfold Tls.ok at h
  simp only [Bool.and_eq_true, decide_eq_true_eq, within_iff] at h
  obtain ⟨h1, h2, h3, h4, h5, h6⟩ := h
  refine ⟨by omega, by omega, h2, h3, fun i hi => ?_⟩
  have := all_range_get h5 hi
  unfold Tls.okAt at this
  simp only [Bool.and_eq_true, within_iff] at this
  exact this.2.2.1
/-- the value of a letter -/
def Tls.val (x : Tls) (c : UInt8) : Int := if Lib.indexByte x.letters.data.toList c < 0 then 0 else x.values.getD (Lib.indexByte x.letters.data.toList c).toNat 0
end Go.Proofs.YtjdcdhhbgijaoaaGreatDoor

namespace Go.Proofs.YtjdcdhhbgijaoaaGreatDoor
open Go.ChangeShapes Go.WideShapes Go.ChangeAt Go.RowKit Go.Sort

/-- a tile set lies at a block -/
def TAt (w : World) (g : Nat) (x : Tls) (q : TlA) : Prop :=
  (w.cell? ⟨g, 0, none⟩ = some (.string x.letters) ∧ w.cell? ⟨g, 1, none⟩ = some (.slice q.values.a x.values.length q.values.c) ∧ w.cell? ⟨g, 2, none⟩ = some (.slice q.counts.a x.counts.length q.counts.c) ∧ w.cell? ⟨g, 3, none⟩ = some (.int .i64 x.blanks)) ∧ x.At q w
theorem TAt.kept {w w' : World} {g : Nat} {x : Tls} {q : TlA} (h : TAt w g x q) (hb : Below w.heap.size w w') : TAt w' g x q :=
  ⟨⟨cell_kept h.1.1 hb, cell_kept h.1.2.1 hb, cell_kept h.1.2.2.1 hb, cell_kept h.1.2.2.2 hb⟩, h.2.kept hb⟩
theorem TAt.drew {w w' : World} {g : Nat} {x : Tls} {q : TlA} (h : TAt w g x q) (hb : Drew w w') : TAt w' g x q := h.kept (hb.below _)
theorem TAt.new (w : World) (x : Tls) (q : TlA) (t : TypeId) (h : x.At q w) : TAt (w.alloc (.cells #[.string x.letters, .slice q.values.a x.values.length q.values.c, .slice q.counts.a x.counts.length q.counts.c, .int .i64 x.blanks] t)) w.heap.size x q :=
  ⟨⟨cell_new0 w _ t rfl, cell_new0 w _ t rfl, cell_new0 w _ t rfl, cell_new0 w _ t rfl⟩, h.kept ((Below.refl _ _).alloc (Nat.le_refl _) _)⟩
theorem TAt.lt {w : World} {g : Nat} {x : Tls} {q : TlA} (h : TAt w g x q) : g < w.heap.size := block_lt h.1.1
/-- a number of a row of numbers -/
theorem num_cell {w : World} {a : Option Addr} {xs : List Int} (h : SliceAt w 1 I64.enc a xs) {k : Nat} (hk : k < xs.length) : ∃ b o, a = some ⟨b, o, none⟩ ∧ w.cell? ⟨b, o + k, none⟩ = some (.int .i64 (xs.getD k 0)) := by
  obtain ⟨b, o, rfl, hc⟩ := h.open hk
  have := hc.at0 hk (v := .int .i64 xs[k]) rfl
  rw [Nat.mul_one] at this
  refine ⟨b, o, rfl, ?_⟩
  rw [this, List.getD_eq_getElem?_getD, List.getElem?_eq_getElem hk]
  rfl
theorem byte_getD {s : ByteArray} {k : Nat} (h : k < s.size) : s.data.toList.getD k 0 = s[k] := by
  have hl : k < s.data.toList.length := by simpa using h
  rw [List.getD_eq_getElem?_getD, List.getElem?_eq_getElem hl]
  exact bytes_get s k h
end Go.Proofs.YtjdcdhhbgijaoaaGreatDoor

namespace Go.Proofs.YtjdcdhhbgijaoaaGreatDoor
open Go.ChangeShapes Go.WideShapes Go.ChangeAt Go.RowKit Go.Sort

end Go.Proofs.YtjdcdhhbgijaoaaGreatDoor

namespace Go.Proofs.YtjdcdhhbgijaoaaGreatDoor
open Go.ChangeShapes Go.WideShapes Go.ChangeAt Go.RowKit Go.Sort

end Go.Proofs.YtjdcdhhbgijaoaaGreatDoor
namespace Go.Proofs.YtjdcdhhbgijaoaaGreatDoor
open Go.ChangeShapes Go.WideShapes Go.ChangeAt Go.RowKit Go.Sort

/-- the first that is not zero -/
def orL : List Int → Int
  | [] => 0
  | x :: r => if x = 0 then orL r else x
theorem orL_step {xs : List Int} {k : Nat} (h : k < xs.length) : orL (xs.drop k) = if xs.getD k 0 = 0 then orL (xs.drop (k + 1)) else xs.getD k 0 := by
  rw [List.drop_eq_getElem_cons h, List.getD_eq_getElem?_getD, List.getElem?_eq_getElem h]
  rfl
theorem ints_new (w : World) (t : TypeId) (xs : List Int) : SliceAt (w.alloc (.cells (xs.map (Value.int .i64)).toArray t)) 1 I64.enc (some ⟨w.heap.size, 0, none⟩) xs := by
  refine .inr ⟨w.heap.size, 0, rfl, fun i hi j v hv => ?_⟩
  have V := VarAt.new w t (xs.map (Value.int .i64))
  cases j with
  | zero =>
    have hv' : some (Value.int .i64 xs[i]) = some v := hv
    have := V.cell (i := i) (v := v) (by rw [List.getElem?_map, List.getElem?_eq_getElem hi]; exact hv')
    rw [Nat.zero_add, Nat.mul_one, Nat.add_zero]
    exact this
  | succ j =>
    exfalso
    have : (I64.enc xs[i])[j + 1]? = none := rfl
    rw [this] at hv
    cases hv
set_option maxHeartbeats 1000000 in
theorem orInt_any (xs : List Int) (g cap : Nat) (w : World) (hm : SliceAt w 1 I64.enc (some ⟨g, 0, none⟩) xs) (hl : xs.length ≤ 9223372036854775807) :
    Calls Tryz.prog 133 #[.slice (some ⟨g, 0, none⟩) xs.length cap] w fun e w' => e = .returned (.int .i64 (orL xs)) ∧ w = w' := by
  have HM := Lib.hid hm
  have HS := Lib.hid (fun (k : Nat) (h : k < xs.length) => orL_step h)
  clear hm
  obtain ⟨R, hR⟩ : ∃ R, R = orL xs := ⟨_, rfl⟩
  rw [← hR]
  have HR := Lib.hid hR
  clear hR
  have hw : w = w := rfl
  go_enter Tryz.func133, Tryz.ntmps133
  go_upto_region 3 with fail
  go_loopw [5, 8] (fun _ iv wr => ∃ k : Nat, k ≤ xs.length ∧ iv = .int .i64 k ∧ Hid (R = orL (xs.drop k)) ∧ w = wr) (fun _ iv _ => xs.length - (intOf iv).toNat)
  case atStart => exact ⟨0, Nat.zero_le _, rfl, HR, rfl⟩
  case round =>
    obtain ⟨k, hk, rfl, HK, rfl⟩ := hrel
    by_cases hk2 : k < xs.length
    · obtain ⟨b, o, ha, c0⟩ := num_cell HM.out hk2
      cases ha
      rw [Nat.zero_add] at c0
      have HKS := Lib.hid (HK.out.trans (HS.out k hk2))
      have hki : (k : Int) < (xs.length : Int) := by omega
      generalize xs.getD k 0 = v at *
      by_cases hv : v = 0
      · have HN : Hid (R = orL (xs.drop (k + 1))) := Lib.hid (by rw [HKS.out, if_pos hv])
        subst hv
        clear HK HKS
        go_wp2
        go_roundw
        case rel => exact ⟨k + 1, by omega, by go_num, HN, by trivial⟩
        case measure => simp [intOf]; omega
      · have HN : Hid (R = v) := Lib.hid (by rw [HKS.out, if_neg hv])
        clear HK HKS
        go_wp2
        go_ret
        exact ⟨by rw [HN.out]; rfl, rfl⟩
    · obtain rfl : k = xs.length := by omega
      have HN : Hid (R = 0) := Lib.hid (by rw [HK.out, List.drop_length]; rfl)
      clear HK
      go_wp2
      go_ret
      exact ⟨by rw [HN.out]; rfl, rfl⟩
theorem cmp_or (a b : Ply) : orL [if a.down = b.down then 0 else if a.down = true then 1 else -1, sgnI a.row b.row, sgnI a.col b.col, sgnT a.word b.word] = a.cmp b := by
  have hz : ∀ x y : Int, sgnI x y = 0 ↔ x = y := fun x y => by
    unfold sgnI
    split
    · constructor
      · intro h; cases h
      · intro h; omega
    · split
      · constructor
        · intro h; cases h
        · intro h; omega
      · constructor
        · intro _; omega
        · intro _; rfl
  unfold Ply.cmp
  simp only [orL]
  by_cases h1 : a.down = b.down
  · rw [if_pos h1, if_pos h1, if_pos rfl]
    by_cases h2 : a.row = b.row
    · rw [if_pos h2, if_pos ((hz _ _).2 h2)]
      by_cases h3 : a.col = b.col
      · rw [if_pos h3, if_pos ((hz _ _).2 h3)]
        split <;> simp_all
      · rw [if_neg h3, if_neg (fun h => h3 ((hz _ _).1 h))]
    · rw [if_neg h2, if_neg (fun h => h2 ((hz _ _).1 h))]
  · rw [if_neg h1, if_neg h1]
    cases ha : a.down <;> cases hb : b.down <;> simp_all
set_option maxRecDepth 100000 in
set_option maxHeartbeats 4000000 in
theorem ComparePlays_any (a b : Ply) (w : World) :
    Calls Tryz.prog 55 #[.agg #[.int .i64 a.row, .int .i64 a.col, .bool a.down, .string a.word], .agg #[.int .i64 b.row, .int .i64 b.col, .bool b.down, .string b.word]] w fun e w' => e = .returned (.int .i64 (a.cmp b)) ∧ Below w.heap.size w w' := by
  obtain ⟨w2, hw2⟩ : ∃ w2, w2 = (w.alloc (.cells #[.int .i64 a.row, .int .i64 a.col, .bool a.down, .string a.word] 30)).alloc (.cells #[.int .i64 b.row, .int .i64 b.col, .bool b.down, .string b.word] 30) := ⟨_, rfl⟩
  have hb : Below w.heap.size w w2 := by rw [hw2]; exact ((Below.refl _ _).alloc (Nat.le_refl _) _).alloc (by simp) _
  have VA : Hid (VarAt w2 w.heap.size 30 [.int .i64 a.row, .int .i64 a.col, .bool a.down, .string a.word]) := by
    rw [hw2]
    exact Lib.hid ((VarAt.new w 30 [.int .i64 a.row, .int .i64 a.col, .bool a.down, .string a.word]).kept ((Below.refl _ _).alloc (Nat.le_refl _) _))
  have VB : Hid (VarAt w2 (w.heap.size + 1) 30 [.int .i64 b.row, .int .i64 b.col, .bool b.down, .string b.word]) := by
    rw [hw2]
    have := VarAt.new (w.alloc (.cells #[.int .i64 a.row, .int .i64 a.col, .bool a.down, .string a.word] 30)) 30 [.int .i64 b.row, .int .i64 b.col, .bool b.down, .string b.word]
    simp only [World.size_alloc] at this
    exact Lib.hid this
  have HW2 := Lib.hid hw2
  clear hw2
  go_enter Tryz.func55, Tryz.ntmps55
  go_upto_region 1 with fail
  rw [← HW2.out]
  clear HW2
  have a2 := VA.out.cell (i := 2) rfl
  have b2 := VB.out.cell (i := 2) rfl
  cases ha : a.down with
  | false =>
    cases hd : b.down with
    | false =>
      have HC := Lib.hid (cmp_or a b)
      rw [ha, hd, if_pos rfl] at HC
      rw [ha] at a2 VA
      rw [hd] at b2 VB
      clear ha hd
      go_upto_region 6 with fail
      clear a2 b2
      have hd : Below w2.heap.size w2 w2.drew := (Below.refl _ _).drew
      replace hb := hb.trans (hd.mono hb.size)
      replace VA := Lib.hid (VA.out.kept hd)
      replace VB := Lib.hid (VB.out.kept hd)
      clear hd
      have a0 := VA.out.cell (i := 0) rfl
      have a1 := VA.out.cell (i := 1) rfl
      have a3 := VA.out.cell (i := 3) rfl
      have b0 := VB.out.cell (i := 0) rfl
      have b1 := VB.out.cell (i := 1) rfl
      have b3 := VB.out.cell (i := 3) rfl
      have HO : Hid (∀ W : World, Calls Tryz.prog 133 #[.slice (some ⟨W.heap.size, 0, none⟩) 4 4] (W.alloc (.cells #[.int .i64 (0), .int .i64 (sgnI a.row b.row), .int .i64 (sgnI a.col b.col), .int .i64 (sgnT a.word b.word)] 3)) fun e w' => e = .returned (.int .i64 (a.cmp b)) ∧ (W.alloc (.cells #[.int .i64 (0), .int .i64 (sgnI a.row b.row), .int .i64 (sgnI a.col b.col), .int .i64 (sgnT a.word b.word)] 3)) = w') := Lib.hid (fun W => by
        have h := orInt_any [0, sgnI a.row b.row, sgnI a.col b.col, sgnT a.word b.word] W.heap.size 4 _ (ints_new W 3 [0, sgnI a.row b.row, sgnI a.col b.col, sgnT a.word b.word]) (by simp)
        rw [HC.out] at h
        exact h)
      have HC1 := Lib.hid (cmpInt_any a.row b.row)
      have HC2 := Lib.hid (cmpInt_any a.col b.col)
      have HC3 := Lib.hid (cmpText_any a.word b.word)
      generalize sgnI a.row b.row = n1 at *
      generalize sgnI a.col b.col = n2 at *
      generalize sgnT a.word b.word = n3 at *
      refine wp_region_still_tail 16 (by kernel_rfl) (by kernel_rfl) ?_
      simp only [List.take_succ_cons, List.take_zero, List.drop_succ_cons, List.drop_zero]
      change wpStill _ _ w2.drew (fun a' => wpList _ _ _ _ a' w2.drew) _ _
      generalize w2.drew = wd at *
      iterate 5 still_step
      still_call (HC1.out _)
      iterate 4 still_step
      still_call (HC2.out _)
      iterate 4 still_step
      still_call (HC3.out _)
      refine wpStill_nil ?_
      clear a0 a1 a3 b0 b1 b3 VA VB HC1 HC2 HC3
      go_wp2_with fail
      refine (HO.out wd).mono ?_
      rintro e w' ⟨rfl, rfl⟩
      go_wp2
      go_ret
      exact ⟨rfl, hb.alloc hb.size _⟩
    | true =>
      have HC := Lib.hid (cmp_or a b)
      rw [ha, hd, if_neg (by decide), if_neg (by decide)] at HC
      rw [ha] at a2 VA
      rw [hd] at b2 VB
      clear ha hd
      go_upto_region 6 with fail
      clear a2 b2
      have hd : Below w2.heap.size w2 w2.drew := (Below.refl _ _).drew
      replace hb := hb.trans (hd.mono hb.size)
      replace VA := Lib.hid (VA.out.kept hd)
      replace VB := Lib.hid (VB.out.kept hd)
      clear hd
      have a0 := VA.out.cell (i := 0) rfl
      have a1 := VA.out.cell (i := 1) rfl
      have a3 := VA.out.cell (i := 3) rfl
      have b0 := VB.out.cell (i := 0) rfl
      have b1 := VB.out.cell (i := 1) rfl
      have b3 := VB.out.cell (i := 3) rfl
      have HO : Hid (∀ W : World, Calls Tryz.prog 133 #[.slice (some ⟨W.heap.size, 0, none⟩) 4 4] (W.alloc (.cells #[.int .i64 (-1), .int .i64 (sgnI a.row b.row), .int .i64 (sgnI a.col b.col), .int .i64 (sgnT a.word b.word)] 3)) fun e w' => e = .returned (.int .i64 (a.cmp b)) ∧ (W.alloc (.cells #[.int .i64 (-1), .int .i64 (sgnI a.row b.row), .int .i64 (sgnI a.col b.col), .int .i64 (sgnT a.word b.word)] 3)) = w') := Lib.hid (fun W => by
        have h := orInt_any [-1, sgnI a.row b.row, sgnI a.col b.col, sgnT a.word b.word] W.heap.size 4 _ (ints_new W 3 [-1, sgnI a.row b.row, sgnI a.col b.col, sgnT a.word b.word]) (by simp)
        rw [HC.out] at h
        exact h)
      have HC1 := Lib.hid (cmpInt_any a.row b.row)
      have HC2 := Lib.hid (cmpInt_any a.col b.col)
      have HC3 := Lib.hid (cmpText_any a.word b.word)
      generalize sgnI a.row b.row = n1 at *
      generalize sgnI a.col b.col = n2 at *
      generalize sgnT a.word b.word = n3 at *
      refine wp_region_still_tail 16 (by kernel_rfl) (by kernel_rfl) ?_
      simp only [List.take_succ_cons, List.take_zero, List.drop_succ_cons, List.drop_zero]
      change wpStill _ _ w2.drew (fun a' => wpList _ _ _ _ a' w2.drew) _ _
      generalize w2.drew = wd at *
      iterate 5 still_step
      still_call (HC1.out _)
      iterate 4 still_step
      still_call (HC2.out _)
      iterate 4 still_step
      still_call (HC3.out _)
      refine wpStill_nil ?_
      clear a0 a1 a3 b0 b1 b3 VA VB HC1 HC2 HC3
      go_wp2_with fail
      refine (HO.out wd).mono ?_
      rintro e w' ⟨rfl, rfl⟩
      go_wp2
      go_ret
      exact ⟨rfl, hb.alloc hb.size _⟩
  | true =>
    cases hd : b.down with
    | false =>
      have HC := Lib.hid (cmp_or a b)
      rw [ha, hd, if_neg (by decide), if_pos rfl] at HC
      rw [ha] at a2 VA
      rw [hd] at b2 VB
      clear ha hd
      go_upto_region 6 with fail
      clear a2 b2
      have hd : Below w2.heap.size w2 w2.drew := (Below.refl _ _).drew
      replace hb := hb.trans (hd.mono hb.size)
      replace VA := Lib.hid (VA.out.kept hd)
      replace VB := Lib.hid (VB.out.kept hd)
      clear hd
      have a0 := VA.out.cell (i := 0) rfl
      have a1 := VA.out.cell (i := 1) rfl
      have a3 := VA.out.cell (i := 3) rfl
      have b0 := VB.out.cell (i := 0) rfl
      have b1 := VB.out.cell (i := 1) rfl
      have b3 := VB.out.cell (i := 3) rfl
      have HO : Hid (∀ W : World, Calls Tryz.prog 133 #[.slice (some ⟨W.heap.size, 0, none⟩) 4 4] (W.alloc (.cells #[.int .i64 (1), .int .i64 (sgnI a.row b.row), .int .i64 (sgnI a.col b.col), .int .i64 (sgnT a.word b.word)] 3)) fun e w' => e = .returned (.int .i64 (a.cmp b)) ∧ (W.alloc (.cells #[.int .i64 (1), .int .i64 (sgnI a.row b.row), .int .i64 (sgnI a.col b.col), .int .i64 (sgnT a.word b.word)] 3)) = w') := Lib.hid (fun W => by
        have h := orInt_any [1, sgnI a.row b.row, sgnI a.col b.col, sgnT a.word b.word] W.heap.size 4 _ (ints_new W 3 [1, sgnI a.row b.row, sgnI a.col b.col, sgnT a.word b.word]) (by simp)
        rw [HC.out] at h
        exact h)
      have HC1 := Lib.hid (cmpInt_any a.row b.row)
      have HC2 := Lib.hid (cmpInt_any a.col b.col)
      have HC3 := Lib.hid (cmpText_any a.word b.word)
      generalize sgnI a.row b.row = n1 at *
      generalize sgnI a.col b.col = n2 at *
      generalize sgnT a.word b.word = n3 at *
      refine wp_region_still_tail 16 (by kernel_rfl) (by kernel_rfl) ?_
      simp only [List.take_succ_cons, List.take_zero, List.drop_succ_cons, List.drop_zero]
      change wpStill _ _ w2.drew (fun a' => wpList _ _ _ _ a' w2.drew) _ _
      generalize w2.drew = wd at *
      iterate 5 still_step
      still_call (HC1.out _)
      iterate 4 still_step
      still_call (HC2.out _)
      iterate 4 still_step
      still_call (HC3.out _)
      refine wpStill_nil ?_
      clear a0 a1 a3 b0 b1 b3 VA VB HC1 HC2 HC3
      go_wp2_with fail
      refine (HO.out wd).mono ?_
      rintro e w' ⟨rfl, rfl⟩
      go_wp2
      go_ret
      exact ⟨rfl, hb.alloc hb.size _⟩
    | true =>
      have HC := Lib.hid (cmp_or a b)
      rw [ha, hd, if_pos rfl] at HC
      rw [ha] at a2 VA
      rw [hd] at b2 VB
      clear ha hd
      go_upto_region 6 with fail
      clear a2 b2
      have hd : Below w2.heap.size w2 w2.drew := (Below.refl _ _).drew
      replace hb := hb.trans (hd.mono hb.size)
      replace VA := Lib.hid (VA.out.kept hd)
      replace VB := Lib.hid (VB.out.kept hd)
      clear hd
      have a0 := VA.out.cell (i := 0) rfl
      have a1 := VA.out.cell (i := 1) rfl
      have a3 := VA.out.cell (i := 3) rfl
      have b0 := VB.out.cell (i := 0) rfl
      have b1 := VB.out.cell (i := 1) rfl
      have b3 := VB.out.cell (i := 3) rfl
      have HO : Hid (∀ W : World, Calls Tryz.prog 133 #[.slice (some ⟨W.heap.size, 0, none⟩) 4 4] (W.alloc (.cells #[.int .i64 (0), .int .i64 (sgnI a.row b.row), .int .i64 (sgnI a.col b.col), .int .i64 (sgnT a.word b.word)] 3)) fun e w' => e = .returned (.int .i64 (a.cmp b)) ∧ (W.alloc (.cells #[.int .i64 (0), .int .i64 (sgnI a.row b.row), .int .i64 (sgnI a.col b.col), .int .i64 (sgnT a.word b.word)] 3)) = w') := Lib.hid (fun W => by
        have h := orInt_any [0, sgnI a.row b.row, sgnI a.col b.col, sgnT a.word b.word] W.heap.size 4 _ (ints_new W 3 [0, sgnI a.row b.row, sgnI a.col b.col, sgnT a.word b.word]) (by simp)
        rw [HC.out] at h
        exact h)
      have HC1 := Lib.hid (cmpInt_any a.row b.row)
      have HC2 := Lib.hid (cmpInt_any a.col b.col)
      have HC3 := Lib.hid (cmpText_any a.word b.word)
      generalize sgnI a.row b.row = n1 at *
      generalize sgnI a.col b.col = n2 at *
      generalize sgnT a.word b.word = n3 at *
      refine wp_region_still_tail 16 (by kernel_rfl) (by kernel_rfl) ?_
      simp only [List.take_succ_cons, List.take_zero, List.drop_succ_cons, List.drop_zero]
      change wpStill _ _ w2.drew (fun a' => wpList _ _ _ _ a' w2.drew) _ _
      generalize w2.drew = wd at *
      iterate 5 still_step
      still_call (HC1.out _)
      iterate 4 still_step
      still_call (HC2.out _)
      iterate 4 still_step
      still_call (HC3.out _)
      refine wpStill_nil ?_
      clear a0 a1 a3 b0 b1 b3 VA VB HC1 HC2 HC3
      go_wp2_with fail
      refine (HO.out wd).mono ?_
      rintro e w' ⟨rfl, rfl⟩
      go_wp2
      go_ret
      exact ⟨rfl, hb.alloc hb.size _⟩
/-! ### Scored plays -/
theorem sgnI_tri (a b : Int) : sgnI a b = -1 ∨ sgnI a b = 0 ∨ sgnI a b = 1 := by
  unfold sgnI
  split
  · exact .inl rfl
  · split
    · exact .inr (.inr rfl)
    · exact .inr (.inl rfl)
theorem sgnT_tri (a b : ByteArray) : sgnT a b = -1 ∨ sgnT a b = 0 ∨ sgnT a b = 1 := by
  unfold sgnT
  split
  · exact .inl rfl
  · split
    · exact .inr (.inr rfl)
    · exact .inr (.inl rfl)
theorem cmp_tri (a b : Ply) : a.cmp b = -1 ∨ a.cmp b = 0 ∨ a.cmp b = 1 := by
  unfold Ply.cmp
  split
  · split
    · split
      · exact sgnT_tri _ _
      · exact sgnI_tri _ _
    · exact sgnI_tri _ _
  · split
    · exact .inl rfl
    · exact .inr (.inr rfl)
end Go.Proofs.YtjdcdhhbgijaoaaGreatDoor
