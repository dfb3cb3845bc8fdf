/- Plain definitions: the rows of a board's text. Contract: the program's rows of a board. For valid boards. -/
import Derived.Test.YtjdcdhhbgijaoaaGreatDoorBrI
import Derived.Deep.AppendLies
namespace Go.Proofs.YtjdcdhhbgijaoaaGreatDoor
open Go.ChangeShapes Go.WideShapes Go.ChangeAt Go.RowKit Go.Sort

theorem own_empty (w : World) (e : TypeId) : (w.alloc (.cells #[] e)).ownsRow w.heap.size e 1 (.slice (some ⟨w.heap.size, 0, none⟩) 0 0) 0 [] :=
  World.ownsRow_made (base := w.heap.size) (e := e) (size := 1) w #[] 0 (Nat.le_refl _) (by unfold maxLen; omega) rfl
structure Cuts (n k s0 s1 : Nat) : Prop where
  p0 : (k : Int) * (n : Int) = (s0 : Int)
  p1 : ((k : Int) + 1) * (n : Int) = (s1 : Int)
  w0 : IntKind.i64.wrap (s0 : Int) = s0
  w1 : IntKind.i64.wrap (s1 : Int) = s1
  le : s0 ≤ s1
  hi : s1 ≤ n * n
theorem own_at {w : World} {base g n cap : Nat} {xs : List ByteArray} (h : w.ownsRow base 9 1 (.slice (some ⟨g, 0, none⟩) n cap) n (xs.flatMap Tx.enc)) (hn : n = xs.length) {j : Nat} (hj : j < xs.length) : w.cell? ⟨g, j, none⟩ = some (.string xs[j]) := by
  obtain ⟨b, o, e, hc⟩ := (own_slice Tx.enc_len h hn).open hj
  cases e
  have := hc.at0 hj rfl
  rwa [Nat.mul_one, Nat.zero_add] at this
end Go.Proofs.YtjdcdhhbgijaoaaGreatDoor
