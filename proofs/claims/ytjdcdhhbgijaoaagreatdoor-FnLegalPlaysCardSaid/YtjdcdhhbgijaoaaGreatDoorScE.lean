/- Plain definitions and lemmas: the scores of a play. No condition. · Contracts: the reference's premiums, the scores of letters, the factor of a word. For valid boards and tile sets. · Contracts: the reference's words across with the row in which they begin; the scores of the letters of a play. For valid boards, plays and tile sets. · Contracts: the reference's scores of the words that a play forms. For valid boards, plays and tile sets. · Contracts: the reference's score of a play; its ScoreParts and ScorePlay. No condition but that lengths fit an int. · Contracts: the reference's ScorePlay and ScoreParts. No condition but that lengths fit an int. -/
import Derived.Test.YtjdcdhhbgijaoaaGreatDoorPlbH
import Derived.Test.YtjdcdhhbgijaoaaGreatDoorTiC
import Derived.Test.YtjdcdhhbgijaoaaGreatDoorPlaD
import Derived.Test.YtjdcdhhbgijaoaaGreatDoorVar
import Derived.Deep.DeepMust
import Derived.Deep.RegionLaw
namespace Go.Proofs.YtjdcdhhbgijaoaaGreatDoor
open Go.ChangeShapes Go.WideShapes Go.ChangeAt Go.RowKit Go.Sort

/-- a letter's value on a premium -/
def letS (v : Int) (pr : UInt8) : Int := if pr = 50 then 2 * v else if pr = 51 then 3 * v else v
/-- a word's factor by a premium -/
def facP (pr : UInt8) : Int := if pr = 100 then 2 else if pr = 116 then 3 else 1
/-- the premiums as an across play sees them -/
def Brd.pview (b : Brd) (p : Ply) : Fl := (b.flat p.down).prm
def sumTo (f : Nat → Int) (k : Nat) : Int := ((List.range k).map f).sum
theorem sumTo_succ (f : Nat → Int) (k : Nat) : sumTo f (k + 1) = sumTo f k + f k := by
  unfold sumTo
  rw [List.range_succ, List.map_append, List.sum_append]
  simp
theorem sumTo_congr {f g : Nat → Int} {k : Nat} (h : ∀ i, i < k → f i = g i) : sumTo f k = sumTo g k := by
  unfold sumTo
  rw [List.map_congr_left fun i hi => h i (List.mem_range.1 hi)]
/-- the score of a letter of the main word -/
def letA (x : Tls) (F G : Fl) (R C : Int) (l : List UInt8) (i : Nat) : Int := if F R (C + i) = 46 then letS (x.val (l.getD i 0)) (G R (C + i)) else x.val (l.getD i 0)
/-- the factor of the main word -/
def facA (G : Fl) (R C : Int) (is : List Nat) : Int := (is.map fun i : Nat => facP (G R (C + i))).foldl (fun a c => a * c) 1
/-- the score of a letter of a word across: at u the letter that is placed, worth s -/
def croA (x : Tls) (W : List UInt8) (u : Nat) (s : Int) (j : Nat) : Int := if j = u then s else x.val (W.getD j 0)
/-- the score of a word across, ahead of its factor -/
def crossSum (x : Tls) (F G : Fl) (R C : Int) (l : List UInt8) (i : Nat) : Int :=
  sumTo (croA x (crossW F R (C + i) (l.getD i 0)) (upL F (C + i) 16 (R - 1)).length (letS (x.val (l.getD i 0)) (G R (C + i)))) (crossW F R (C + i) (l.getD i 0)).length
def partA (x : Tls) (F G : Fl) (R C : Int) (l : List UInt8) (i : Nat) : Int := crossSum x F G R C l i * facP (G R (C + i))
/-- the words across that score -/
def scoring (F : Fl) (R C : Int) (l : List UInt8) (is : List Nat) : List Nat := is.filter fun i => decide (1 < (crossW F R (C + i) (l.getD i 0)).length)
def partsA (x : Tls) (F G : Fl) (R C : Int) (l : List UInt8) (is : List Nat) : List Int := (scoring F R C l is).map (partA x F G R C l)
/-- the score of the main word -/
def mainA (x : Tls) (F G : Fl) (R C : Int) (l : List UInt8) (k : Nat) (is : List Nat) : Int := sumTo (letA x F G R C l) k * facA G R C is
def Brd.parts (b : Brd) (p : Ply) (x : Tls) : List Int :=
  mainA x (b.view p) (b.pview p) p.r p.c p.word.data.toList p.word.size (b.fresh p) :: partsA x (b.view p) (b.pview p) p.r p.c p.word.data.toList (b.fresh p)
def Brd.score (b : Brd) (p : Ply) (x : Tls) : Int := (b.parts p x).sum + if (b.fresh p).length = 7 then 50 else 0
end Go.Proofs.YtjdcdhhbgijaoaaGreatDoor

namespace Go.Proofs.YtjdcdhhbgijaoaaGreatDoor
open Go.ChangeShapes Go.WideShapes Go.ChangeAt Go.RowKit Go.Sort

end Go.Proofs.YtjdcdhhbgijaoaaGreatDoor

namespace Go.Proofs.YtjdcdhhbgijaoaaGreatDoor
open Go.ChangeShapes Go.WideShapes Go.ChangeAt Go.RowKit Go.Sort

theorem newsN1 {w : World} {g : Nat} {x : Value} (h0 : w.cell? ⟨g, 0, none⟩ = some x) : ∀ j u, [x][j]? = some u → w.cell? ((⟨g, 0, none⟩ : Addr).add j) = some u := by
  intro j u hu
  rw [Go.Addr.add_lit, Nat.zero_add]
  match j, hu with
  | 0, hu => rw [h0]; exact hu
  | (j + 1), hu => simp at hu
end Go.Proofs.YtjdcdhhbgijaoaaGreatDoor

namespace Go.Proofs.YtjdcdhhbgijaoaaGreatDoor
open Go.ChangeShapes Go.WideShapes Go.ChangeAt Go.RowKit Go.Sort

end Go.Proofs.YtjdcdhhbgijaoaaGreatDoor

namespace Go.Proofs.YtjdcdhhbgijaoaaGreatDoor
open Go.ChangeShapes Go.WideShapes Go.ChangeAt Go.RowKit Go.Sort

end Go.Proofs.YtjdcdhhbgijaoaaGreatDoor

namespace Go.Proofs.YtjdcdhhbgijaoaaGreatDoor
open Go.ChangeShapes Go.WideShapes Go.ChangeAt Go.RowKit Go.Sort

end Go.Proofs.YtjdcdhhbgijaoaaGreatDoor
