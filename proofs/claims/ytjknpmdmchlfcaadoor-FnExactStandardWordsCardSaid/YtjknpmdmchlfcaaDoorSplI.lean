/- Contract: strings.Split at one byte, in plain words. Leans on the variable MaxLen of internal/bytealg. For every text of at most 2^20 bytes. -/
import Derived.Test.YtjknpmdmchlfcaaDoorByt
import Derived.Test.YtjknpmdmchlfcaaDoorSplP
import Derived.Test.YtjknpmdmchlfcaaDoorTx
import Derived.Test.YtjknpmdmchlfcaaDoorShs
namespace Go.Proofs.YtjknpmdmchlfcaaDoor
open Go.ChangeShapes Go.WideShapes Go.ChangeAt Go.RowKit Go.Sort

/-- the variable that the library's searches read -/
def EnvM (w : World) : Prop := ∃ m : Int, w.cell? ⟨0, 0, none⟩ = some (.int .i64 m)
theorem EnvM.kept {w w' : World} (h : EnvM w) (hb : Below w.heap.size w w') : EnvM w' := by
  obtain ⟨m, hm⟩ := h
  exact ⟨m, cell_kept hm hb⟩
theorem own_new_texts (w : World) (xs : List ByteArray) (t : TypeId) (hl : xs.length ≤ 1099511627776) : (w.alloc (.cells (xs.map Value.string).toArray t)).ownsRow w.heap.size t 1 (.slice (some ⟨w.heap.size, 0, none⟩) xs.length xs.length) xs.length (xs.flatMap Tx.enc) := by
  have e : xs.flatMap Tx.enc = xs.map Value.string := by
    clear hl
    induction xs with
    | nil => rfl
    | cons x xs ih => rw [List.flatMap_cons, ih]; rfl
  rw [e]
  exact ⟨by simp, .inr ⟨w.heap.size, xs.length, (xs.map Value.string).toArray, rfl, Nat.le_refl _, heap_alloc_new w _, Nat.le_refl _, by unfold maxLen; omega, by simp, by rw [Nat.mul_one]; simp [List.take_of_length_le]⟩⟩
/-- The library's Split at a blank, as the reference's parts. -/
theorem splitM_any (s : ByteArray) (c : UInt8) (w : World) (he : EnvM w) (hs : s.size ≤ 1048576) : Calls Tryd.prog 10 #[.string s, .string ⟨#[c]⟩] w (TextsPost w ((splitL c s.data.toList).map mkB)) := by
  obtain ⟨m, hm⟩ := he
  refine (Any.strings_Split { Tryd.laysM146 with } Tryd.laysM146.i9 s ⟨#[c]⟩ m w (by omega) hm (Nat.le_refl _)).mono ?_
  rintro e w' ⟨rfl, rfl⟩
  have hcnt : Lib.countB s ⟨#[c]⟩ + 1 = ((splitL c s.data.toList).map mkB).length := by
    rw [List.length_map, splitL_len, ← Lib.count_one]
  have hx : Lib.splitB ⟨#[c]⟩ 0 (Lib.countB s ⟨#[c]⟩) s = (splitL c s.data.toList).map mkB := by
    rw [← split_tie c _ s rfl, List.map_map]
    rw [show (mkB ∘ fun x : ByteArray => x.data.toList) = id from funext mkB_of, List.map_id]
  have hl : ((splitL c s.data.toList).map mkB).length ≤ 1099511627776 := by
    rw [List.length_map, splitL_len]
    have := List.count_le_length (a := c) (l := s.data.toList)
    have e2 : s.data.toList.length = s.size := Array.length_toList
    omega
  rw [hcnt, hx]
  exact ⟨_, _, rfl, own_new_texts w _ _ hl, (Below.refl _ _).alloc (Nat.le_refl _) _⟩
end Go.Proofs.YtjknpmdmchlfcaaDoor
