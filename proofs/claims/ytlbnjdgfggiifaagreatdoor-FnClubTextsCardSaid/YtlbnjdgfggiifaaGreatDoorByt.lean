/- Plain lemmas: rows of bytes that a function makes, and the strings made of them. No condition. · Plain lemmas: a row of bytes that '[]byte(s)' made (the run-time's mark stands behind its last cell): read, written, made a string. No condition. -/
import Derived.Test.YtlbnjdgfggiifaaGreatDoorProg
import Derived.Test.YtlbnjdgfggiifaaGreatDoorBase
import Derived.Deep.AppendLies
import Derived.Laws.IdiomStrings
namespace Go.Proofs.YtlbnjdgfggiifaaGreatDoor
open Go.ChangeShapes Go.WideShapes Go.ChangeAt Go.RowKit Go.Sort

def mkB (l : List UInt8) : ByteArray := ⟨l.toArray⟩
theorem mkB_data (l : List UInt8) : (mkB l).data.toList = l := by simp [mkB]
theorem mkB_of (b : ByteArray) : mkB b.data.toList = b := by simp [mkB]
theorem mkB_list (l : List UInt8) : (mkB l).toList = l := by rw [ByteArray.toList_eq, mkB_data]
/-- a text in new memory -/
def StrPost (w : World) (l : List UInt8) (e : Ending) (w' : World) : Prop := e = .returned (.string (mkB l)) ∧ Below w.heap.size w w'
theorem mkB_size (l : List UInt8) : (mkB l).size = l.length := by simp [mkB, ByteArray.size]
theorem cat_mk (a b : ByteArray) : a ++ b = mkB (a.data.toList ++ b.data.toList) := by
  apply ByteArray.ext
  simp [mkB, ByteArray.data_append]
def U8.enc (c : UInt8) : List Value := [.int .u8 (c.toNat : Int)]
theorem U8.enc_len (c : UInt8) : (U8.enc c).length = 1 := rfl
theorem u8_flat (l : List UInt8) : l.flatMap U8.enc = l.map fun c => Value.int .u8 (c.toNat : Int) := by
  induction l with
  | nil => rfl
  | cons c l ih => rw [List.flatMap_cons, ih]; rfl
theorem u8_one (l : List UInt8) : ∀ u ∈ l.flatMap U8.enc, u.oneCell' = true := by
  intro u hu
  rw [u8_flat] at hu
  obtain ⟨c, _, rfl⟩ := List.mem_map.1 hu
  rfl
theorem u8_one1 (c : UInt8) : ∀ u ∈ U8.enc c, u.oneCell' = true := by
  intro u hu
  simp only [U8.enc, List.mem_cons, List.not_mem_nil, or_false] at hu
  rw [hu]; rfl
theorem infoByte : (Tryz.prog.info? 5).map (fun i => (i.zero, i.size, i.bytes)) = some (some (.int .u8 0), 1, 1) := by kernel_rfl
/-- the string of a row of bytes -/
theorem bytes_str {w : World} {a : Addr} {l : List UInt8} {cap n : Nat} (hn : n = l.length) (hc : ∀ j (hj : j < l.length), w.cell? (a.add j) = some (.int .u8 (l[j].toNat : Int))) :
    (convert 22 9 (.slice (some a) n cap)).run Tryz.prog w = .ok (.string (mkB l)) w := by
  subst hn
  exact run_convert_bytes_back w 22 9 5 a cap l Tryz.underlying22 Tryz.underlying5 Tryz.underlying9 hc
theorem own_bytes {w : World} {base g n cap : Nat} {l : List UInt8} (h : w.ownsRow base 5 1 (.slice (some ⟨g, 0, none⟩) n cap) n (l.flatMap U8.enc)) (hn : n = l.length) :
    (convert 22 9 (.slice (some ⟨g, 0, none⟩) n cap)).run Tryz.prog w = .ok (.string (mkB l)) w := by
  refine bytes_str hn fun j hj => ?_
  refine h.cells rfl j _ ?_
  rw [u8_flat, List.getElem?_map, List.getElem?_eq_getElem hj]
  rfl
theorem own_some {w : World} {B : Nat} {e : TypeId} {sz n : Nat} {v : Value} {L : List Value} (h : w.ownsRow B e sz v n L) (hv : v ≠ .slice none 0 0) : ∃ g cap, v = .slice (some ⟨g, 0, none⟩) n cap ∧ B ≤ g := by
  rcases h.2 with ⟨h0, _⟩ | ⟨g, c, _, h0, h1, _⟩
  · exact absurd h0 hv
  · exact ⟨g, c, h0, h1⟩
theorem own_news0 {w : World} {base : Nat} {e : TypeId} {sz g n cap : Nat} {L : List Value} (h : w.ownsRow base e sz (.slice (some ⟨g, 0, none⟩) n cap) n L) : ∀ j u, L[j]? = some u → w.cell? ((⟨g, 0, none⟩ : Addr).add j) = some u := h.cells rfl
theorem new_byte (w : World) (c : UInt8) (t : TypeId) : ∀ j u, (U8.enc c)[j]? = some u → (w.alloc (.cells #[.int .u8 (c.toNat : Int)] t)).cell? ((⟨w.heap.size, 0, none⟩ : Addr).add j) = some u := by
  intro j u hu
  rw [Go.Addr.add_lit, Nat.zero_add]
  match j, hu with
  | 0, hu =>
    simp only [U8.enc, List.getElem?_cons_zero, Option.some.injEq] at hu
    subst hu
    exact cell_new0 w _ t rfl
  | j + 1, hu => simp [U8.enc] at hu
theorem own_new_byte (w : World) (c : Int) (t : TypeId) (base : Nat) (hb : base ≤ w.heap.size) : (w.alloc (.cells #[.int .u8 c] t)).ownsRow base t 1 (.slice (some ⟨w.heap.size, 0, none⟩) 1 1) 1 [.int .u8 c] :=
  ⟨by simp, .inr ⟨w.heap.size, 1, #[.int .u8 c], rfl, hb, heap_alloc_new w _, Nat.le_refl _, by unfold maxLen; omega, by simp, by simp⟩⟩
end Go.Proofs.YtlbnjdgfggiifaaGreatDoor

namespace Go.Proofs.YtlbnjdgfggiifaaGreatDoor
open Go.ChangeShapes Go.WideShapes Go.ChangeAt Go.RowKit Go.Sort

/-- block g begins with the bytes l, none of them frozen -/
def RowB (w : World) (g : Nat) (l : List UInt8) : Prop :=
  ∃ (cur : Array Value) (a b : Nat), w.heap[g]? = some (.cells cur 5 (a, b)) ∧ l.length ≤ cur.size ∧ (cur.size ≤ a ∨ b = 0) ∧ cur.toList.take l.length = l.map fun c => Value.int .u8 (c.toNat : Int)
theorem RowB.lt {w : World} {g : Nat} {l : List UInt8} (h : RowB w g l) : g < w.heap.size := by
  obtain ⟨cur, a, b, hg, _⟩ := h
  exact (Array.getElem?_eq_some_iff.1 hg).1
theorem RowB.cell {w : World} {g : Nat} {l : List UInt8} (h : RowB w g l) {i : Nat} (hi : i < l.length) : w.cell? ⟨g, i, none⟩ = some (.int .u8 (l[i].toNat : Int)) := by
  obtain ⟨cur, a, b, hg, hl, _, ht⟩ := h
  rw [cell_of_row w g i cur _ _ hg]
  have h2 : (cur.toList.take l.length)[i]? = some (.int .u8 (l[i].toNat : Int)) := by
    rw [ht, List.getElem?_map, List.getElem?_eq_getElem hi]; rfl
  rw [List.getElem?_take_of_lt hi] at h2
  simpa using h2
theorem RowB.free {w : World} {g : Nat} {l : List UInt8} (h : RowB w g l) {i : Nat} (hi : i < l.length) : w.frozen? ⟨g, i, none⟩ = false := by
  obtain ⟨cur, a, b, hg, hl, hz, _⟩ := h
  simp only [World.frozen?, hg]
  rcases hz with hz | hz
  · simp; omega
  · simp; omega
theorem RowB.kept {w w' : World} {g : Nat} {l : List UInt8} (h : RowB w g l) (hb : Below w.heap.size w w') : RowB w' g l := by
  have hlt := h.lt
  obtain ⟨cur, a, b, hg, r⟩ := h
  exact ⟨cur, a, b, (hb.block g hlt).trans hg, r⟩
theorem RowB.grown {w w' : World} {g : Nat} {l : List UInt8} (h : RowB w g l) {row : Option Nat} (hg : w.grownBy w' row) (hne : some g ≠ row) : RowB w' g l := by
  have hlt := h.lt
  obtain ⟨cur, a, b, h1, r⟩ := h
  exact ⟨cur, a, b, (hg.block g hlt hne).trans h1, r⟩
theorem RowB.set {w : World} {g : Nat} {l : List UInt8} (h : RowB w g l) (i : Nat) (c : UInt8) : RowB (w.setCell ⟨g, i, none⟩ (.int .u8 (c.toNat : Int))) g (l.set i c) ∧ w.grownBy (w.setCell ⟨g, i, none⟩ (.int .u8 (c.toNat : Int))) (some g) := by
  obtain ⟨cur, a, b, hg, hl, hz, ht⟩ := h
  refine ⟨⟨cur.setIfInBounds i (.int .u8 (c.toNat : Int)), a, b, ?_, ?_, ?_, ?_⟩, ⟨rfl, rfl, rfl, by simp, fun k _ hk => heap_setCell_other w ⟨g, i, none⟩ k _ (fun e => hk (by simp [e]))⟩⟩
  · simp [World.setCell, Array.getElem?_modify, hg]
  · simpa using hl
  · simpa using hz
  · rw [Array.toList_setIfInBounds, List.length_set, List.take_set, ht, List.map_set]
theorem RowB.as {w : World} {g : Nat} {l l' : List UInt8} (h : RowB w g l) (e : l = l') : RowB w g l' := e ▸ h
theorem RowB.str {w : World} {g : Nat} {l : List UInt8} (h : RowB w g l) {n cap : Nat} (hn : n = l.length) : (convert 22 9 (.slice (some ⟨g, 0, none⟩) n cap)).run Tryz.prog w = .ok (.string (mkB l)) w := by
  refine bytes_str hn fun j hj => ?_
  rw [Go.Addr.add_lit, Nat.zero_add]
  exact h.cell hj
/-- '[]byte(s)': a new row of bytes. -/
theorem bytes_of (s : ByteArray) (w : World) : ∃ cap w', s.size ≤ cap ∧ (convert 9 22 (.string s)).run Tryz.prog w = .ok (.slice (some ⟨w.heap.size, 0, none⟩) s.size cap) w' ∧ RowB w' w.heap.size s.data.toList ∧ Below w.heap.size w w' := by
  have hc : s.size ≤ grownCap w s.size 0 5 ∨ ¬ s.size ≤ grownCap w s.size 0 5 := Classical.em _
  have h := run_bytes_of_string (P := Tryz.prog) w 9 22 5 s Tryz.underlying9 Tryz.underlying22 Tryz.underlying5
  have hge : s.size ≤ grownCap w s.size 0 5 := grownCap_ge _ _ _ _
  generalize grownCap w s.size 0 5 = cap at *
  refine ⟨cap, _, hge, h, ?_, ((Below.refl _ _).drew).alloc (by simp) _⟩
  have hs : s.data.toList.length = s.size := by simp
  have hz : (bytesRow s cap).size = cap := by simp only [bytesRow, Array.size_append, Array.size_map, Array.size_replicate]; show s.size + _ = _; omega
  refine ⟨bytesRow s cap, (bytesRow s cap).size, (bytesRow s cap).size + 1, ?_, by rw [hz]; omega, .inl (Nat.le_refl _), ?_⟩
  · show (w.heap.push _)[w.heap.size]? = _
    simp
  · unfold bytesRow
    rw [Array.toList_append, List.take_append_of_le_length (by simp), List.take_of_length_le (by simp)]
    simp
end Go.Proofs.YtlbnjdgfggiifaaGreatDoor
