/- More on rows: a slice's cells as a row; one cell of a row set. No program. -/
import Derived.Test.YtpkadgibfmjmcaaGreatDoorBase
namespace Go.Proofs.YtpkadgibfmjmcaaGreatDoor
open Go.ChangeShapes Go.WideShapes Go.ChangeAt Go.RowKit Go.Sort

/-- The cells of a slice that lies in memory, one behind the other. -/
theorem cellsAt_row {α : Type} {enc : α → List Value} {sz : Nat} (he : ∀ x, (enc x).length = sz) (hs : 0 < sz) {w : World} {b off : Nat} {xs : List α} (h : CellsAt w sz enc b off xs) :
    ∀ j u, (xs.flatMap enc)[j]? = some u → w.cell? ((⟨b, off, none⟩ : Addr).add j) = some u := by
  intro j u hj
  have hlt : j < xs.length * sz := by
    rw [← flatMap_len he]
    exact (List.getElem?_eq_some_iff.1 hj).1
  have hi : j / sz < xs.length := (Nat.div_lt_iff_lt_mul hs).2 hlt
  have hr : j % sz < sz := Nat.mod_lt _ hs
  have hd : j / sz * sz + j % sz = j := by rw [Nat.mul_comm]; exact Nat.div_add_mod j sz
  rw [← hd, flatMap_get he xs hi hr] at hj
  have := h _ hi _ _ hj
  rw [Go.Addr.add_lit]
  rw [show off + j = off + j / sz * sz + j % sz from by omega]
  exact this
theorem flatMap_set {α : Type} {enc : α → List Value} {sz : Nat} (he : ∀ x, (enc x).length = sz) (xs : List α) {i : Nat} (hi : i < xs.length) {j : Nat} (hj : j < sz) (v : Value) (y : α) (hy : enc y = (enc xs[i]).set j v) :
    (xs.flatMap enc).set (i * sz + j) v = (xs.set i y).flatMap enc := by
  induction xs generalizing i with
  | nil => simp at hi
  | cons x xs ih =>
    cases i with
    | zero =>
      rw [List.flatMap_cons, List.set_cons_zero, List.flatMap_cons, hy, Nat.zero_mul, Nat.zero_add, List.set_append_left _ _ (by rw [he]; omega)]
      rfl
    | succ i =>
      have hi' : i < xs.length := by simpa using hi
      rw [List.flatMap_cons, List.set_cons_succ, List.flatMap_cons, List.set_append_right _ _ (by rw [he, Nat.succ_mul]; omega), he]
      rw [show (i + 1) * sz + j - sz = i * sz + j from by rw [Nat.succ_mul]; omega]
      rw [ih hi' hy]
/-- What an owned row gives: the element's cells. -/
theorem own_cells {α : Type} {enc : α → List Value} {sz : Nat} (he : ∀ x, (enc x).length = sz) {w : World} {base : Nat} {e : TypeId} {g cap n : Nat} {xs : List α}
    (h : w.ownsRow base e sz (.slice (some ⟨g, 0, none⟩) n cap) n (xs.flatMap enc)) (hn : n = xs.length) {i : Nat} (hi : i < xs.length) {j : Nat} {v : Value} (hv : (enc xs[i])[j]? = some v) :
    w.cell? ⟨g, i * sz + j, none⟩ = some v := by
  have hj : j < sz := by
    have := (List.getElem?_eq_some_iff.1 hv).1
    rwa [he] at this
  have hlt : i * sz + j < n * sz := by
    have h1 : (i + 1) * sz ≤ n * sz := Nat.mul_le_mul_right _ (by omega)
    rw [Nat.succ_mul] at h1
    omega
  rw [h.cellAt _ hlt, flatMap_get he xs hi hj, hv]
theorem own_shape {w : World} {base : Nat} {e : TypeId} {sz : Nat} {v : Value} {n : Nat} {xs : List Value} (h : w.ownsRow base e sz v n xs) : ∃ a cap, v = .slice a n cap := by
  rcases h.2 with ⟨hv, hn⟩ | ⟨g, cap, _, hv, _⟩
  · exact ⟨none, 0, by rw [hv, hn]⟩
  · exact ⟨_, cap, hv⟩
theorem frozen_kept {w w' : World} {p : Addr} {v : Value} {b : Bool} (hf : w.frozen? p = b) (hc : w.cell? p = some v) (hb : Below w.heap.size w w') : w'.frozen? p = b :=
  (hb.frozen (World.block_lt_of_cell? w p hc)).trans hf
theorem own_alloc {w : World} {base : Nat} {e : TypeId} {sz : Nat} {v : Value} {n : Nat} {xs : List Value} (h : w.ownsRow base e sz v n xs) (o : Obj) : (w.alloc o).ownsRow base e sz v n xs := h.alloc o
/-- A row of the call's own is none of the blocks ahead of it: it stays while one of those is written. -/
theorem own_setCell {w : World} {base : Nat} {e : TypeId} {sz : Nat} {v : Value} {n : Nat} {xs : List Value} (h : w.ownsRow base e sz v n xs) {b o : Nat} (hb : b < base) (u : Value) : (w.setCell ⟨b, o, none⟩ u).ownsRow base e sz v n xs :=
  ownsRow_setCell_below h (a := ⟨b, o, none⟩) hb u
end Go.Proofs.YtpkadgibfmjmcaaGreatDoor
