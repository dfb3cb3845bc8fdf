/- Contract: the program's words that a play forms. For valid plays on valid boards. · Contracts: the reference's words that a play forms and a lexicon does not have; its WrongW · Contracts: the reference's codes of plays: whether a down play is an across play too, the  -/
import Derived.Test.YtjdcdhhbgijaoaaGreatDoorPlbF
import Derived.Test.YtjdcdhhbgijaoaaGreatDoorLex
import Derived.Test.YtjdcdhhbgijaoaaGreatDoorPlaD
import Derived.Test.YtjdcdhhbgijaoaaGreatDoorToA
namespace Go.Proofs.YtjdcdhhbgijaoaaGreatDoor
open Go.ChangeShapes Go.WideShapes Go.ChangeAt Go.RowKit Go.Sort

theorem PGood.cross_le {b : Brd} {p : Ply} {n : Nat} (h : PGood b p n) {i : Nat} (hi : i < p.word.size) : (crossS b p i).length ≤ 31 := by
  unfold crossS
  rw [seqL_len]
  have h1 := seqU_le h.made_good (d := !p.down) (h.made_full hi).2
  have h2 := seqD_le h.made_good (d := !p.down) (h.made_full hi).2
  omega
theorem row_ent {w : World} {base g cap n : Nat} {sq : Nat → List (Int × Int)} {es : List Ent} (h : w.ownsRow base 65 1 (.slice (some ⟨g, 0, none⟩) n cap) n (es.flatMap (Ent.enc sq))) {k : Nat} (hk : k < es.length) : w.cell? ⟨g, k, none⟩ = some (.slice (some ⟨es[k].g, 0, none⟩) (sq es[k].i).length es[k].cap) := by
  have h1 := own_news0 h k (.slice (some ⟨es[k].g, 0, none⟩) (sq es[k].i).length es[k].cap) (by
    have := flatMap_get (enc := Ent.enc sq) (sz := 1) (Ent.enc_len sq) es hk (j := 0) (by omega)
    rw [Nat.mul_one, Nat.add_zero] at this
    rw [this]
    rfl)
  rwa [Go.Addr.add_lit, Nat.zero_add] at h1
end Go.Proofs.YtjdcdhhbgijaoaaGreatDoor
namespace Go.Proofs.YtjdcdhhbgijaoaaGreatDoor
open Go.ChangeShapes Go.WideShapes Go.ChangeAt Go.RowKit Go.Sort

end Go.Proofs.YtjdcdhhbgijaoaaGreatDoor

namespace Go.Proofs.YtjdcdhhbgijaoaaGreatDoor
open Go.ChangeShapes Go.WideShapes Go.ChangeAt Go.RowKit Go.Sort

end Go.Proofs.YtjdcdhhbgijaoaaGreatDoor

namespace Go.Proofs.YtjdcdhhbgijaoaaGreatDoor
open Go.ChangeShapes Go.WideShapes Go.ChangeAt Go.RowKit Go.Sort

end Go.Proofs.YtjdcdhhbgijaoaaGreatDoor
namespace Go.Proofs.YtjdcdhhbgijaoaaGreatDoor
open Go.ChangeShapes Go.WideShapes Go.ChangeAt Go.RowKit Go.Sort

/-! ### Plain -/
/-- the tiles that a play places, in order -/
def Brd.tiles (b : Brd) (p : Ply) : List UInt8 := (placedB p.word (b.fresh p)).map tlC
theorem PGood.tiles_ok {b : Brd} {p : Ply} {n : Nat} (h : PGood b p n) : ∀ c ∈ b.tiles p, tileB c = true := by
  intro c hc
  unfold Brd.tiles placedB at hc
  obtain ⟨d, hd, rfl⟩ := List.mem_map.1 hc
  obtain ⟨i, hi, rfl⟩ := List.mem_map.1 hd
  have hl := (freshL_lt hi).1
  refine tile_of_let ?_
  rw [u8_byte hl]
  exact (List.all_eq_true.1 h.letters) _ (by rw [← bytes_get p.word i hl]; exact List.getElem_mem _)
end Go.Proofs.YtjdcdhhbgijaoaaGreatDoor
