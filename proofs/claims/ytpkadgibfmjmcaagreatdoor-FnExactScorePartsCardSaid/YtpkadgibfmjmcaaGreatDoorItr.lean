/- Plain lemmas: a range over a string of ASCII bytes whose round may make memory: the iterator's own block. No condition but that. -/
import Derived.Test.YtpkadgibfmjmcaaGreatDoorVar
import Derived.Laws.RangeString
import Derived.Laws.RangeAny
namespace Go.Proofs.YtpkadgibfmjmcaaGreatDoor
open Go.ChangeShapes Go.WideShapes Go.ChangeAt Go.RowKit Go.Sort

/-- block it is the iterator of a range over s, at pos -/
def IterAt (w : World) (it : Nat) (s : ByteArray) (pos : Nat) : Prop := w.heap[it]? = some (.stringIter s pos)
theorem IterAt.new (w : World) (s : ByteArray) : IterAt (w.iter s 0) w.heap.size s 0 := World.iter_heap w s 0
theorem IterAt.lt {w : World} {it : Nat} {s : ByteArray} {pos : Nat} (h : IterAt w it s pos) : it < w.heap.size := (Array.getElem?_eq_some_iff.1 h).1
theorem IterAt.kept {w w' : World} {it : Nat} {s : ByteArray} {pos : Nat} (h : IterAt w it s pos) (hb : Below w.heap.size w w') : IterAt w' it s pos := (hb.block it h.lt).trans h
theorem IterAt.grown {w w' : World} {it : Nat} {s : ByteArray} {pos : Nat} (h : IterAt w it s pos) {row : Option Nat} (hg : w.grownBy w' row) (hne : some it ≠ row) : IterAt w' it s pos := (hg.block it h.lt hne).trans h
theorem IterAt.pos {w : World} {it : Nat} {s : ByteArray} {pos : Nat} (h : IterAt w it s pos) : w.iterPos it = pos := by
  unfold IterAt at h
  simp [World.iterPos, h]
theorem iter_below (w : World) (s : ByteArray) : Below w.heap.size w (w.iter s 0) := (Below.refl _ _).alloc (Nat.le_refl _) _
theorem next_at {P : Program} {w : World} {it : Nat} {s : ByteArray} {pos : Nat} (h : IterAt w it s pos) (hlt : pos < s.size) (ha : (s[pos]).toNat < 128) :
    ∃ w', (∀ ty : TypeId, (Instr.next (.pointer (some ⟨it, 0, none⟩)) true ty).run P w = .ok (.tuple #[.bool true, .int .i64 pos, .int .i32 (s[pos]).toNat]) w') ∧ IterAt w' it s (pos + 1) ∧ w.grownBy w' (some it) := by
  have hit := h.lt
  refine ⟨{ w with heap := w.heap.setIfInBounds it (.stringIter s (pos + 1)) }, ?_, ?_, ⟨rfl, rfl, rfl, by simp, fun k hk hne => ?_⟩⟩
  · intro ty
    unfold IterAt at h
    simp only [Instr.next, getObj, setObj, Sem.run_bind, Sem.run, h, Result.andThen, hlt, if_true, decode_ascii s pos hlt ha]
    simp [goInt]
  · unfold IterAt
    simp [hit]
  · have : it ≠ k := fun e => hne (by rw [e])
    simp [this]
theorem next_end {P : Program} {w : World} {it : Nat} {s : ByteArray} {pos : Nat} (h : IterAt w it s pos) (hlt : ¬ pos < s.size) :
    ∀ ty : TypeId, (Instr.next (.pointer (some ⟨it, 0, none⟩)) true ty).run P w = .ok (.tuple #[.bool false]) w := by
  intro ty
  unfold IterAt at h
  simp [Instr.next, getObj, Sem.run, h, hlt]
end Go.Proofs.YtpkadgibfmjmcaaGreatDoor
