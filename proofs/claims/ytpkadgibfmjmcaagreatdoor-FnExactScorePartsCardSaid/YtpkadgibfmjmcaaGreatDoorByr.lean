/- Plain lemmas: a row of bytes that '[]byte(s)' made (the run-time's mark stands behind its last cell): read, written, made a string. No condition. -/
import Derived.Test.YtpkadgibfmjmcaaGreatDoorByt
namespace Go.Proofs.YtpkadgibfmjmcaaGreatDoor
open Go.ChangeShapes Go.WideShapes Go.ChangeAt Go.RowKit Go.Sort

/-- block g begins with the bytes l, none of them frozen -/
def RowB (w : World) (g : Nat) (l : List UInt8) : Prop :=
  ∃ (cur : Array Value) (a b : Nat), w.heap[g]? = some (.cells cur 5 (a, b)) ∧ l.length ≤ cur.size ∧ (cur.size ≤ a ∨ b = 0) ∧ cur.toList.take l.length = l.map fun c => Value.int .u8 (c.toNat : Int)
theorem RowB.lt {w : World} {g : Nat} {l : List UInt8} (h : RowB w g l) : g < w.heap.size := by
  obtain ⟨cur, a, b, hg, _⟩ := h
  exact (Array.getElem?_eq_some_iff.1 hg).1
theorem RowB.cell {w : World} {g : Nat} {l : List UInt8} (h : RowB w g l) {i : Nat} (hi : i < l.length) : w.cell? ⟨g, i, none⟩ = some (.int .u8 (l[i].toNat : Int)) := by
  obtain ⟨cur, a, b, hg, hl, _, ht⟩ := h
  rw [cell_of_row w g i cur _ _ hg]
  have h2 : (cur.toList.take l.length)[i]? = some (.int .u8 (l[i].toNat : Int)) := by
    rw [ht, List.getElem?_map, List.getElem?_eq_getElem hi]; rfl
  rw [List.getElem?_take_of_lt hi] at h2
  simpa using h2
theorem RowB.free {w : World} {g : Nat} {l : List UInt8} (h : RowB w g l) {i : Nat} (hi : i < l.length) : w.frozen? ⟨g, i, none⟩ = false := by
  obtain ⟨cur, a, b, hg, hl, hz, _⟩ := h
  simp only [World.frozen?, hg]
  rcases hz with hz | hz
  · simp; omega
  · simp; omega
theorem RowB.kept {w w' : World} {g : Nat} {l : List UInt8} (h : RowB w g l) (hb : Below w.heap.size w w') : RowB w' g l := by
  have hlt := h.lt
  obtain ⟨cur, a, b, hg, r⟩ := h
  exact ⟨cur, a, b, (hb.block g hlt).trans hg, r⟩
theorem RowB.grown {w w' : World} {g : Nat} {l : List UInt8} (h : RowB w g l) {row : Option Nat} (hg : w.grownBy w' row) (hne : some g ≠ row) : RowB w' g l := by
  have hlt := h.lt
  obtain ⟨cur, a, b, h1, r⟩ := h
  exact ⟨cur, a, b, (hg.block g hlt hne).trans h1, r⟩
theorem RowB.set {w : World} {g : Nat} {l : List UInt8} (h : RowB w g l) (i : Nat) (c : UInt8) : RowB (w.setCell ⟨g, i, none⟩ (.int .u8 (c.toNat : Int))) g (l.set i c) ∧ w.grownBy (w.setCell ⟨g, i, none⟩ (.int .u8 (c.toNat : Int))) (some g) := by
  obtain ⟨cur, a, b, hg, hl, hz, ht⟩ := h
  refine ⟨⟨cur.setIfInBounds i (.int .u8 (c.toNat : Int)), a, b, ?_, ?_, ?_, ?_⟩, ⟨rfl, rfl, rfl, by simp, fun k _ hk => heap_setCell_other w ⟨g, i, none⟩ k _ (fun e => hk (by simp [e]))⟩⟩
  · simp [World.setCell, Array.getElem?_modify, hg]
  · simpa using hl
  · simpa using hz
  · rw [Array.toList_setIfInBounds, List.length_set, List.take_set, ht, List.map_set]
theorem RowB.as {w : World} {g : Nat} {l l' : List UInt8} (h : RowB w g l) (e : l = l') : RowB w g l' := e ▸ h
theorem RowB.str {w : World} {g : Nat} {l : List UInt8} (h : RowB w g l) {n cap : Nat} (hn : n = l.length) : (convert 141 9 (.slice (some ⟨g, 0, none⟩) n cap)).run Tryz.prog w = .ok (.string (mkB l)) w := by
  refine bytes_str hn fun j hj => ?_
  rw [Go.Addr.add_lit, Nat.zero_add]
  exact h.cell hj
/-- '[]byte(s)': a new row of bytes. -/
theorem bytes_of (s : ByteArray) (w : World) : ∃ cap w', s.size ≤ cap ∧ (convert 9 141 (.string s)).run Tryz.prog w = .ok (.slice (some ⟨w.heap.size, 0, none⟩) s.size cap) w' ∧ RowB w' w.heap.size s.data.toList ∧ Below w.heap.size w w' := by
  have hc : s.size ≤ grownCap w s.size 0 5 ∨ ¬ s.size ≤ grownCap w s.size 0 5 := Classical.em _
  have h := run_bytes_of_string (P := Tryz.prog) w 9 141 5 s Tryz.underlying9 Tryz.underlying141 Tryz.underlying5
  have hge : s.size ≤ grownCap w s.size 0 5 := grownCap_ge _ _ _ _
  generalize grownCap w s.size 0 5 = cap at *
  refine ⟨cap, _, hge, h, ?_, ((Below.refl _ _).drew).alloc (by simp) _⟩
  have hs : s.data.toList.length = s.size := by simp
  have hz : (bytesRow s cap).size = cap := by simp only [bytesRow, Array.size_append, Array.size_map, Array.size_replicate]; show s.size + _ = _; omega
  refine ⟨bytesRow s cap, (bytesRow s cap).size, (bytesRow s cap).size + 1, ?_, by rw [hz]; omega, .inl (Nat.le_refl _), ?_⟩
  · show (w.heap.push _)[w.heap.size]? = _
    simp
  · unfold bytesRow
    rw [Array.toList_append, List.take_append_of_le_length (by simp), List.take_of_length_le (by simp)]
    simp
end Go.Proofs.YtpkadgibfmjmcaaGreatDoor
