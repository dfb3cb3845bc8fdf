/- Contracts: the statements' own functions of TileSet (sz, to, eq). No condition but that a length fits an int. · Plain definitions and lemmas: valid tile sets, the values of letters. No condition. · Contracts: the reference's test on tile sets, the values of letters. No condition but that lengths fit an int. · Contract: the reference's test on tile sets. No condition but that lengths fit an int. · Contracts: the program's test on tile sets, the value of a letter. No condition but that lengths fit an int. -/
import Derived.Test.YtjdcdhhbgijaoaaGreatDoorVar
import Derived.Test.YtjdcdhhbgijaoaaGreatDoorFrame
import Derived.Test.YtjdcdhhbgijaoaaGreatDoorBrA
import Derived.Lib.IndexLaws
import Derived.Test.YtjdcdhhbgijaoaaGreatDoorShq
import Derived.Test.YtjdcdhhbgijaoaaGreatDoorLex
namespace Go.Proofs.YtjdcdhhbgijaoaaGreatDoor
open Go.ChangeShapes Go.WideShapes Go.ChangeAt Go.RowKit Go.Sort

structure Tls where
  letters : ByteArray
  values : List Int
  counts : List Int
  blanks : Int
/-- where its rows lie -/
structure TlA where
  values : Rwa
  counts : Rwa
def Tls.At (x : Tls) (p : TlA) (w : World) : Prop := SliceAt w 1 I64.enc p.values.a x.values ∧ SliceAt w 1 I64.enc p.counts.a x.counts
theorem Tls.At.kept {x : Tls} {p : TlA} {w w' : World} (h : x.At p w) (hb : Below w.heap.size w w') : x.At p w' := ⟨h.1.kept hb, h.2.kept hb⟩
/-- its rows are of the call's own -/
def Tls.Own (x : Tls) (p : TlA) (base : Nat) (w : World) : Prop := w.ownsRow base 2 1 (.slice p.values.a x.values.length p.values.c) x.values.length (x.values.flatMap I64.enc) ∧ w.ownsRow base 2 1 (.slice p.counts.a x.counts.length p.counts.c) x.counts.length (x.counts.flatMap I64.enc)
theorem Tls.Own.at {x : Tls} {p : TlA} {base : Nat} {w : World} (h : x.Own p base w) : x.At p w := ⟨own_slice I64.enc_len h.1 rfl, own_slice I64.enc_len h.2 rfl⟩
theorem Tls.Own.kept {x : Tls} {p : TlA} {base : Nat} {w w' : World} (h : x.Own p base w) (hb : Below w.heap.size w w') : x.Own p base w' := ⟨own_below h.1 hb, own_below h.2 hb⟩
theorem Tls.Own.mono {x : Tls} {p : TlA} {base base' : Nat} {w : World} (h : x.Own p base w) (hb : base' ≤ base) : x.Own p base' w := ⟨own_mono h.1 hb, own_mono h.2 hb⟩
theorem Tls.Own.store {x : Tls} {p : TlA} {base g : Nat} {w w' : World} (h : x.Own p base w) (hg : w.grownBy w' (some g)) (hlt : g < base) : x.Own p base w' := ⟨row_store h.1 hg hlt, row_store h.2 hg hlt⟩
def Tls.fit (x : Tls) : Prop := x.letters.size ≤ 9223372036854775807 ∧ x.values.length ≤ 9223372036854775807 ∧ x.counts.length ≤ 9223372036854775807
def Tls.sz (x : Tls) : Nat := x.letters.size + x.values.length + x.counts.length
def Tls.small (x : Tls) : Prop := x.values.length ≤ 1048576 ∧ x.counts.length ≤ 1048576
end Go.Proofs.YtjdcdhhbgijaoaaGreatDoor

namespace Go.Proofs.YtjdcdhhbgijaoaaGreatDoor
open Go.ChangeShapes Go.WideShapes Go.ChangeAt Go.RowKit Go.Sort

theorem all_range_get {f : Nat → Bool} {n : Nat} (h : (List.range n).all f = true) {i : Nat} (hi : i < n) : f i = true := List.all_eq_true.1 h i (List.mem_range.2 hi)
def lowAt (l : List UInt8) (i : Nat) : Bool := smallB ((l.getD i 0).toNat : Int)
/-- a byte is greater than the one before -/
def incB (l : List UInt8) (i : Nat) : Bool := decide (i = 0) || decide (((l.getD (i - 1) 0).toNat : Int) < ((l.getD i 0).toNat : Int))
def Tls.okAt (x : Tls) (i : Nat) : Bool := lowAt x.letters.data.toList i && (incB x.letters.data.toList i && (withinB (x.values.getD i 0) 0 20 && withinB (x.counts.getD i 0) 1 20))
def Tls.ok (x : Tls) : Bool :=
  withinB x.letters.size 1 26 && (decide (x.values.length = x.letters.size) && (decide (x.counts.length = x.letters.size) && (withinB x.blanks 0 4 && ((List.range x.letters.size).all x.okAt && decide (x.blanks + x.counts.sum ≤ 120)))))
structure Tls.Good (x : Tls) : Prop where
  lo : 1 ≤ x.letters.size
  hi : x.letters.size ≤ 26
  values : x.values.length = x.letters.size
  counts : x.counts.length = x.letters.size
  range : ∀ i, i < x.letters.size → 0 ≤ x.values.getD i 0 ∧ x.values.getD i 0 ≤ 20
theorem Tls.good {x : Tls} (h : x.ok = true) : x.Good := by
  unfold Tls.ok at h
  simp only [Bool.and_eq_true, decide_eq_true_eq, within_iff] at h
  obtain ⟨h1, h2, h3, h4, h5, h6⟩ := h
  refine ⟨by omega, by omega, h2, h3, fun i hi => ?_⟩
  have := all_range_get h5 hi
  unfold Tls.okAt at this
  simp only [Bool.and_eq_true, within_iff] at this
  exact this.2.2.1
/-- the value of a letter -/
def Tls.val (x : Tls) (c : UInt8) : Int := if Lib.indexByte x.letters.data.toList c < 0 then 0 else x.values.getD (Lib.indexByte x.letters.data.toList c).toNat 0
end Go.Proofs.YtjdcdhhbgijaoaaGreatDoor

namespace Go.Proofs.YtjdcdhhbgijaoaaGreatDoor
open Go.ChangeShapes Go.WideShapes Go.ChangeAt Go.RowKit Go.Sort

/-- a tile set lies at a block -/
def TAt (w : World) (g : Nat) (x : Tls) (q : TlA) : Prop :=
  (w.cell? ⟨g, 0, none⟩ = some (.string x.letters) ∧ w.cell? ⟨g, 1, none⟩ = some (.slice q.values.a x.values.length q.values.c) ∧ w.cell? ⟨g, 2, none⟩ = some (.slice q.counts.a x.counts.length q.counts.c) ∧ w.cell? ⟨g, 3, none⟩ = some (.int .i64 x.blanks)) ∧ x.At q w
theorem TAt.kept {w w' : World} {g : Nat} {x : Tls} {q : TlA} (h : TAt w g x q) (hb : Below w.heap.size w w') : TAt w' g x q :=
  ⟨⟨cell_kept h.1.1 hb, cell_kept h.1.2.1 hb, cell_kept h.1.2.2.1 hb, cell_kept h.1.2.2.2 hb⟩, h.2.kept hb⟩
theorem TAt.drew {w w' : World} {g : Nat} {x : Tls} {q : TlA} (h : TAt w g x q) (hb : Drew w w') : TAt w' g x q := h.kept (hb.below _)
theorem TAt.new (w : World) (x : Tls) (q : TlA) (t : TypeId) (h : x.At q w) : TAt (w.alloc (.cells #[.string x.letters, .slice q.values.a x.values.length q.values.c, .slice q.counts.a x.counts.length q.counts.c, .int .i64 x.blanks] t)) w.heap.size x q :=
  ⟨⟨cell_new0 w _ t rfl, cell_new0 w _ t rfl, cell_new0 w _ t rfl, cell_new0 w _ t rfl⟩, h.kept ((Below.refl _ _).alloc (Nat.le_refl _) _)⟩
theorem TAt.lt {w : World} {g : Nat} {x : Tls} {q : TlA} (h : TAt w g x q) : g < w.heap.size := block_lt h.1.1
end Go.Proofs.YtjdcdhhbgijaoaaGreatDoor

namespace Go.Proofs.YtjdcdhhbgijaoaaGreatDoor
open Go.ChangeShapes Go.WideShapes Go.ChangeAt Go.RowKit Go.Sort

end Go.Proofs.YtjdcdhhbgijaoaaGreatDoor

namespace Go.Proofs.YtjdcdhhbgijaoaaGreatDoor
open Go.ChangeShapes Go.WideShapes Go.ChangeAt Go.RowKit Go.Sort

end Go.Proofs.YtjdcdhhbgijaoaaGreatDoor
