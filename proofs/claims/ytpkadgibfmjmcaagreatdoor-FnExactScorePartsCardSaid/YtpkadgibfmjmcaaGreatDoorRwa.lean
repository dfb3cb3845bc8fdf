/- Plain definitions: where a row lies; a row of the call's own bears a store into elder memory. No condition. -/
import Derived.Test.YtpkadgibfmjmcaaGreatDoorRow
namespace Go.Proofs.YtpkadgibfmjmcaaGreatDoor
open Go.ChangeShapes Go.WideShapes Go.ChangeAt Go.RowKit Go.Sort

/-- where a row lies, and its capacity -/
structure Rwa where
  a : Option Addr
  c : Nat
theorem row_store {w w' : World} {base g : Nat} {e : TypeId} {sz n : Nat} {v : Value} {L : List Value} (h : w.ownsRow base e sz v n L) (hg : w.grownBy w' (some g)) (hlt : g < base) : w'.ownsRow base e sz v n L :=
  h.kept hg (.inr fun k => by have := (h.lt g k).1; omega)
end Go.Proofs.YtpkadgibfmjmcaaGreatDoor
