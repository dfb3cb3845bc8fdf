/- Contract: the program's sequence of letters in a direction. For valid boards and a square with a letter. · Contract: the program's crossings of a play. For valid plays on valid boards. · Plain: the squares of a word across, on the board after a play, hold the word that the reference forms. No condition. -/
import Derived.Test.YtgphkffbbmmmmaaGreatDoorPlbC
namespace Go.Proofs.YtgphkffbbmmmmaaGreatDoor
open Go.ChangeShapes Go.WideShapes Go.ChangeAt Go.RowKit Go.Sort

end Go.Proofs.YtgphkffbbmmmmaaGreatDoor

namespace Go.Proofs.YtgphkffbbmmmmaaGreatDoor
open Go.ChangeShapes Go.WideShapes Go.ChangeAt Go.RowKit Go.Sort

/-- an offset, and where the squares of its word across lie -/
structure Ent where
 i:Nat
 g:Nat
 cap:Nat
def Ent.enc (sq:Nat→List (Int × Int)) (e:Ent):List Value:=[.slice (some ⟨e.g,0,none⟩) (sq e.i).length e.cap]
theorem Ent.enc_len (sq:Nat→List (Int × Int)) (e:Ent):(Ent.enc sq e).length=1:=rfl
/-- the rows of the words' squares -/
def EntsAt (w:World) (base:Nat) (sq:Nat→List (Int × Int)) (es:List Ent):Prop :=
 ∀ e∈es,w.ownsRow base 192 2 (.slice (some ⟨e.g,0,none⟩) (sq e.i).length e.cap) (sq e.i).length ((sq e.i).flatMap Sq.enc)
theorem EntsAt.kept {w w':World} {base:Nat} {sq:Nat→List (Int × Int)} {es:List Ent} (h:EntsAt w base sq es) (hb:Below w.heap.size w w'):EntsAt w' base sq es:=fun e he=>own_below (h e he) hb
theorem EntsAt.grown {w w':World} {base:Nat} {sq:Nat→List (Int × Int)} {es:List Ent} (h:EntsAt w base sq es) {g:Nat} (hg:w.grownBy w' (some g)) (hne:∀ e∈es,e.g≠g):EntsAt w' base sq es:=fun e he =>
 (h e he).kept hg (.inr (by simp [Value.ownBlock];exact hne e he))
theorem EntsAt.mono {w:World} {base base':Nat} {sq:Nat→List (Int × Int)} {es:List Ent} (h:EntsAt w base sq es) (hb:base'≤base):EntsAt w base' sq es:=fun e he=>own_mono (h e he) hb
theorem EntsAt.lt {w:World} {base:Nat} {sq:Nat→List (Int × Int)} {es:List Ent} (h:EntsAt w base sq es):∀ e∈es,e.g < w.heap.size:=fun e he=>((h e he).lt e.g rfl).2
end Go.Proofs.YtgphkffbbmmmmaaGreatDoor

namespace Go.Proofs.YtgphkffbbmmmmaaGreatDoor
open Go.ChangeShapes Go.WideShapes Go.ChangeAt Go.RowKit Go.Sort

end Go.Proofs.YtgphkffbbmmmmaaGreatDoor
