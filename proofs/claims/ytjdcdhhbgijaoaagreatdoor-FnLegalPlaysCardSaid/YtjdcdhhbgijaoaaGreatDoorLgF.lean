/- Contracts: the reference's codes of plays: whether a down play is an across play too, the first fault of a play, LegalPlay. No condition but that lengths fit an int. -/
import Derived.Test.YtjdcdhhbgijaoaaGreatDoorLgE
import Derived.Test.YtjdcdhhbgijaoaaGreatDoorToA
import Derived.Test.YtjdcdhhbgijaoaaGreatDoorJnC
namespace Go.Proofs.YtjdcdhhbgijaoaaGreatDoor
open Go.ChangeShapes Go.WideShapes Go.ChangeAt Go.RowKit Go.Sort

/-! ### Plain -/
/-- a down play of one tile that forms an across word too -/
def Brd.double (b : Brd) (p : Ply) : Bool := p.down && (decide ((b.fresh p).length = 1) && decide (1 < (b.words p).length))
/-- the tiles that a play places, in order -/
def Brd.tiles (b : Brd) (p : Ply) : List UInt8 := (placedB p.word (b.fresh p)).map tlC
/-- the first fault of a play -/
def Brd.legal (b : Brd) (ws : List ByteArray) (rack : ByteArray) (p : Ply) : Int :=
  if b.okPlay p = false then 2 else if hasT rack.data.toList (b.tiles p) = false then 3 else if b.touch p = false then 6 else if b.double p = true then 4 else if 0 < (wrongL ws (b.words p)).length then 9 else 0
def Brd.legalPlay (b : Brd) (ws : List ByteArray) (rack : ByteArray) (p : Ply) : Int :=
  if (b.ok && (lexOk ws && rackOk rack.data.toList)) = false then 1 else b.legal ws rack p
theorem legal_range {b : Brd} {ws : List ByteArray} {rack : ByteArray} {p : Ply} (h : b.okPlay p = false) : b.legal ws rack p = 2 := by unfold Brd.legal; rw [if_pos h]
theorem legal_found {b : Brd} {ws : List ByteArray} {rack : ByteArray} {p : Ply} (h : b.okPlay p = true) (h2 : hasT rack.data.toList (b.tiles p) = false) : b.legal ws rack p = 3 := by unfold Brd.legal; rw [h, h2]; rfl
theorem legal_state {b : Brd} {ws : List ByteArray} {rack : ByteArray} {p : Ply} (h : b.okPlay p = true) (h2 : hasT rack.data.toList (b.tiles p) = true) (h3 : b.touch p = false) : b.legal ws rack p = 6 := by unfold Brd.legal; rw [h, h2, h3]; rfl
theorem legal_exists {b : Brd} {ws : List ByteArray} {rack : ByteArray} {p : Ply} (h : b.okPlay p = true) (h2 : hasT rack.data.toList (b.tiles p) = true) (h3 : b.touch p = true) (h4 : b.double p = true) : b.legal ws rack p = 4 := by unfold Brd.legal; rw [h, h2, h3, h4]; rfl
theorem legal_illegal {b : Brd} {ws : List ByteArray} {rack : ByteArray} {p : Ply} (h : b.okPlay p = true) (h2 : hasT rack.data.toList (b.tiles p) = true) (h3 : b.touch p = true) (h4 : b.double p = false) : b.legal ws rack p = if 0 < (wrongL ws (b.words p)).length then 9 else 0 := by unfold Brd.legal; rw [h, h2, h3, h4]; rfl
theorem PGood.tiles_ok {b : Brd} {p : Ply} {n : Nat} (h : PGood b p n) : ∀ c ∈ b.tiles p, tileB c = true := by
  intro c hc
  unfold Brd.tiles placedB at hc
  obtain ⟨d, hd, rfl⟩ := List.mem_map.1 hc
  obtain ⟨i, hi, rfl⟩ := List.mem_map.1 hd
  have hl := (freshL_lt hi).1
  refine tile_of_let ?_
  rw [u8_byte hl]
  exact (List.all_eq_true.1 h.letters) _ (by rw [← bytes_get p.word i hl]; exact List.getElem_mem _)
/-- the code when an argument is not valid -/
theorem legalPlay_no {b : Brd} {ws : List ByteArray} {rack : ByteArray} {p : Ply} (h : (b.ok && (lexOk ws && rackOk rack.data.toList)) = false) : b.legalPlay ws rack p = 1 := by unfold Brd.legalPlay; rw [if_pos h]
theorem legalPlay_yes {b : Brd} {ws : List ByteArray} {rack : ByteArray} {p : Ply} (h1 : b.ok = true) (h2 : lexOk ws = true) (h3 : rackOk rack.data.toList = true) : b.legalPlay ws rack p = b.legal ws rack p := by unfold Brd.legalPlay; rw [h1, h2, h3]; rfl
end Go.Proofs.YtjdcdhhbgijaoaaGreatDoor
