/- Plain definitions: texts and numbers in rows, one cell each. No condition. · The statement · Plain lemmas: rows of bytes that a function makes, and the strings made of them. No condit · Plain lemmas: a variable of a function that lies in memory (a block of its own), known who -/
import Derived.Test.YtjdcdhhbgijaoaaGreatDoorFrame
import Derived.Test.YtjdcdhhbgijaoaaGreatDoorProg
import Derived.Deep.AppendLies
import Derived.Laws.IdiomStrings
import Derived.Deep.MidRow
import Derived.Laws.ResultCell
import Derived.Laws.RangeString
import Derived.Laws.RangeAny
import Derived.Deep.RegionHeld3
import Derived.Deep.DeepCutAuto
namespace Go.Proofs.YtjdcdhhbgijaoaaGreatDoor
open Go.ChangeShapes Go.WideShapes Go.ChangeAt Go.RowKit Go.Sort

def Tx.enc (s : ByteArray) : List Value := [.string s]
theorem Tx.enc_len (s : ByteArray) : (Tx.enc s).length = 1 := rfl
def I64.enc (x : Int) : List Value := [.int .i64 x]
theorem I64.enc_len (x : Int) : (I64.enc x).length = 1 := rfl
theorem tx_one (s : ByteArray) : ∀ u ∈ Tx.enc s, u.oneCell' = true := by
  intro u hu
  simp only [Tx.enc, List.mem_cons, List.not_mem_nil, or_false] at hu
  subst hu
  rfl
theorem i64_one (x : Int) : ∀ u ∈ I64.enc x, u.oneCell' = true := by
  intro u hu
  simp only [I64.enc, List.mem_cons, List.not_mem_nil, or_false] at hu
  subst hu
  rfl
theorem new_tx (w : World) (x : ByteArray) (e : TypeId) : ∀ j u, (Tx.enc x)[j]? = some u → (w.alloc (.cells #[.string x] e)).cell? ((⟨w.heap.size, 0, none⟩ : Addr).add j) = some u := by
  intro j u hu
  rw [Go.Addr.add_lit, Nat.zero_add]
  match j, hu with
  | 0, hu =>
    simp only [Tx.enc, List.getElem?_cons_zero, Option.some.injEq] at hu
    subst hu
    exact cell_new0 w _ e rfl
  | j + 1, hu => simp [Tx.enc] at hu
theorem new_i64 (w : World) (x : Int) (e : TypeId) : ∀ j u, (I64.enc x)[j]? = some u → (w.alloc (.cells #[.int .i64 x] e)).cell? ((⟨w.heap.size, 0, none⟩ : Addr).add j) = some u := by
  intro j u hu
  rw [Go.Addr.add_lit, Nat.zero_add]
  match j, hu with
  | 0, hu =>
    simp only [I64.enc, List.getElem?_cons_zero, Option.some.injEq] at hu
    subst hu
    exact cell_new0 w _ e rfl
  | j + 1, hu => simp [I64.enc] at hu
theorem infoTx : (Tryz.prog.info? 9).map (fun i => (i.zero, i.size, i.bytes)) = some (some (.string ⟨#[]⟩), 1, 16) := by kernel_rfl
theorem infoI64 : (Tryz.prog.info? 2).map (fun i => (i.zero, i.size, i.bytes)) = some (some (.int .i64 0), 1, 8) := by kernel_rfl
/-- texts in a row of the call's own -/
def TextsPost (w : World) (xs : List ByteArray) (e : Ending) (w' : World) : Prop :=
  ∃ g cap, e = .returned (.slice (some ⟨g, 0, none⟩) xs.length cap) ∧ w'.ownsRow w.heap.size 9 1 (.slice (some ⟨g, 0, none⟩) xs.length cap) xs.length (xs.flatMap Tx.enc) ∧ Below w.heap.size w w'
end Go.Proofs.YtjdcdhhbgijaoaaGreatDoor

namespace Go.Proofs.YtjdcdhhbgijaoaaGreatDoor
open Go.ChangeShapes Go.WideShapes Go.ChangeAt Go.RowKit Go.Sort

end Go.Proofs.YtjdcdhhbgijaoaaGreatDoor

namespace Go.Proofs.YtjdcdhhbgijaoaaGreatDoor
open Go.ChangeShapes Go.WideShapes Go.ChangeAt Go.RowKit Go.Sort

end Go.Proofs.YtjdcdhhbgijaoaaGreatDoor

namespace Go.Proofs.YtjdcdhhbgijaoaaGreatDoor
open Go.ChangeShapes Go.WideShapes Go.ChangeAt Go.RowKit Go.Sort

end Go.Proofs.YtjdcdhhbgijaoaaGreatDoor

namespace Go.Proofs.YtjdcdhhbgijaoaaGreatDoor
open Go.ChangeShapes Go.WideShapes Go.ChangeAt Go.RowKit Go.Sort

structure Brd where
  size : Int
  premium : ByteArray
  cells : ByteArray
def Brd.enc (m : Brd) : List Value := [.int .i64 m.size, .string m.premium, .string m.cells]
theorem Brd.enc_len (m : Brd) : (Brd.enc m).length = 3 := rfl
/-- What memory bounds: no string is longer than a string can be. -/
def Brd.fit (m : Brd) : Prop := m.premium.size ≤ 9223372036854775807 ∧ m.cells.size ≤ 9223372036854775807
def Brd.sz (m : Brd) : Nat := m.premium.size + m.cells.size

end Go.Proofs.YtjdcdhhbgijaoaaGreatDoor

namespace Go.Proofs.YtjdcdhhbgijaoaaGreatDoor
open Go.ChangeShapes Go.WideShapes Go.ChangeAt Go.RowKit Go.Sort

structure Ply where
  row : Int
  col : Int
  down : Bool
  word : ByteArray
def Ply.enc (m : Ply) : List Value := [.int .i64 m.row, .int .i64 m.col, .bool m.down, .string m.word]
theorem Ply.enc_len (m : Ply) : (Ply.enc m).length = 4 := rfl
/-- What memory bounds: no string is longer than a string can be. -/
def Ply.fit (m : Ply) : Prop := m.word.size ≤ 9223372036854775807
def Ply.sz (m : Ply) : Nat := m.word.size

end Go.Proofs.YtjdcdhhbgijaoaaGreatDoor
namespace Go.Proofs.YtjdcdhhbgijaoaaGreatDoor
open Go.ChangeShapes Go.WideShapes Go.ChangeAt Go.RowKit Go.Sort

def mkB (l : List UInt8) : ByteArray := ⟨l.toArray⟩
theorem mkB_data (l : List UInt8) : (mkB l).data.toList = l := by simp [mkB]
theorem mkB_of (b : ByteArray) : mkB b.data.toList = b := by simp [mkB]
theorem mkB_list (l : List UInt8) : (mkB l).toList = l := by rw [ByteArray.toList_eq, mkB_data]
/-- a text in new memory -/
def StrPost (w : World) (l : List UInt8) (e : Ending) (w' : World) : Prop := e = .returned (.string (mkB l)) ∧ Below w.heap.size w w'
theorem mkB_size (l : List UInt8) : (mkB l).size = l.length := by simp [mkB, ByteArray.size]
theorem cat_mk (a b : ByteArray) : a ++ b = mkB (a.data.toList ++ b.data.toList) := by
  apply ByteArray.ext
  simp [mkB, ByteArray.data_append]
def U8.enc (c : UInt8) : List Value := [.int .u8 (c.toNat : Int)]
theorem U8.enc_len (c : UInt8) : (U8.enc c).length = 1 := rfl
theorem u8_flat (l : List UInt8) : l.flatMap U8.enc = l.map fun c => Value.int .u8 (c.toNat : Int) := by
  induction l with
  | nil => rfl
  | cons c l ih => rw [List.flatMap_cons, ih]; rfl
theorem u8_one (l : List UInt8) : ∀ u ∈ l.flatMap U8.enc, u.oneCell' = true := by
  intro u hu
  rw [u8_flat] at hu
  obtain ⟨c, _, rfl⟩ := List.mem_map.1 hu
  rfl
theorem u8_one1 (c : UInt8) : ∀ u ∈ U8.enc c, u.oneCell' = true := by
  intro u hu
  simp only [U8.enc, List.mem_cons, List.not_mem_nil, or_false] at hu
  rw [hu]; rfl
theorem infoByte : (Tryz.prog.info? 5).map (fun i => (i.zero, i.size, i.bytes)) = some (some (.int .u8 0), 1, 1) := by kernel_rfl
/-- the string of a row of bytes -/
theorem bytes_str {w : World} {a : Addr} {l : List UInt8} {cap n : Nat} (hn : n = l.length) (hc : ∀ j (hj : j < l.length), w.cell? (a.add j) = some (.int .u8 (l[j].toNat : Int))) :
    (convert 22 9 (.slice (some a) n cap)).run Tryz.prog w = .ok (.string (mkB l)) w := by
  subst hn
  exact run_convert_bytes_back w 22 9 5 a cap l Tryz.underlying22 Tryz.underlying5 Tryz.underlying9 hc
theorem own_bytes {w : World} {base g n cap : Nat} {l : List UInt8} (h : w.ownsRow base 5 1 (.slice (some ⟨g, 0, none⟩) n cap) n (l.flatMap U8.enc)) (hn : n = l.length) :
    (convert 22 9 (.slice (some ⟨g, 0, none⟩) n cap)).run Tryz.prog w = .ok (.string (mkB l)) w := by
  refine bytes_str hn fun j hj => ?_
  refine h.cells rfl j _ ?_
  rw [u8_flat, List.getElem?_map, List.getElem?_eq_getElem hj]
  rfl
theorem own_some {w : World} {B : Nat} {e : TypeId} {sz n : Nat} {v : Value} {L : List Value} (h : w.ownsRow B e sz v n L) (hv : v ≠ .slice none 0 0) : ∃ g cap, v = .slice (some ⟨g, 0, none⟩) n cap ∧ B ≤ g := by
  rcases h.2 with ⟨h0, _⟩ | ⟨g, c, _, h0, h1, _⟩
  · exact absurd h0 hv
  · exact ⟨g, c, h0, h1⟩
theorem own_news0 {w : World} {base : Nat} {e : TypeId} {sz g n cap : Nat} {L : List Value} (h : w.ownsRow base e sz (.slice (some ⟨g, 0, none⟩) n cap) n L) : ∀ j u, L[j]? = some u → w.cell? ((⟨g, 0, none⟩ : Addr).add j) = some u := h.cells rfl
theorem new_byte (w : World) (c : UInt8) (t : TypeId) : ∀ j u, (U8.enc c)[j]? = some u → (w.alloc (.cells #[.int .u8 (c.toNat : Int)] t)).cell? ((⟨w.heap.size, 0, none⟩ : Addr).add j) = some u := by
  intro j u hu
  rw [Go.Addr.add_lit, Nat.zero_add]
  match j, hu with
  | 0, hu =>
    simp only [U8.enc, List.getElem?_cons_zero, Option.some.injEq] at hu
    subst hu
    exact cell_new0 w _ t rfl
  | j + 1, hu => simp [U8.enc] at hu
theorem own_new_byte (w : World) (c : Int) (t : TypeId) (base : Nat) (hb : base ≤ w.heap.size) : (w.alloc (.cells #[.int .u8 c] t)).ownsRow base t 1 (.slice (some ⟨w.heap.size, 0, none⟩) 1 1) 1 [.int .u8 c] :=
  ⟨by simp, .inr ⟨w.heap.size, 1, #[.int .u8 c], rfl, hb, heap_alloc_new w _, Nat.le_refl _, by unfold maxLen; omega, by simp, by simp⟩⟩
end Go.Proofs.YtjdcdhhbgijaoaaGreatDoor

namespace Go.Proofs.YtjdcdhhbgijaoaaGreatDoor
open Go.ChangeShapes Go.WideShapes Go.ChangeAt Go.RowKit Go.Sort

/-- block g begins with the bytes l, none of them frozen -/
def RowB (w : World) (g : Nat) (l : List UInt8) : Prop :=
  ∃ (cur : Array Value) (a b : Nat), w.heap[g]? = some (.cells cur 5 (a, b)) ∧ l.length ≤ cur.size ∧ (cur.size ≤ a ∨ b = 0) ∧ cur.toList.take l.length = l.map fun c => Value.int .u8 (c.toNat : Int)
theorem RowB.lt {w : World} {g : Nat} {l : List UInt8} (h : RowB w g l) : g < w.heap.size := by
  obtain ⟨cur, a, b, hg, _⟩ := h
  exact (Array.getElem?_eq_some_iff.1 hg).1
theorem RowB.cell {w : World} {g : Nat} {l : List UInt8} (h : RowB w g l) {i : Nat} (hi : i < l.length) : w.cell? ⟨g, i, none⟩ = some (.int .u8 (l[i].toNat : Int)) := by
  obtain ⟨cur, a, b, hg, hl, _, ht⟩ := h
  rw [cell_of_row w g i cur _ _ hg]
  have h2 : (cur.toList.take l.length)[i]? = some (.int .u8 (l[i].toNat : Int)) := by
    rw [ht, List.getElem?_map, List.getElem?_eq_getElem hi]; rfl
  rw [List.getElem?_take_of_lt hi] at h2
  simpa using h2
theorem RowB.free {w : World} {g : Nat} {l : List UInt8} (h : RowB w g l) {i : Nat} (hi : i < l.length) : w.frozen? ⟨g, i, none⟩ = false := by
  obtain ⟨cur, a, b, hg, hl, hz, _⟩ := h
  simp only [World.frozen?, hg]
  rcases hz with hz | hz
  · simp; omega
  · simp; omega
theorem RowB.kept {w w' : World} {g : Nat} {l : List UInt8} (h : RowB w g l) (hb : Below w.heap.size w w') : RowB w' g l := by
  have hlt := h.lt
  obtain ⟨cur, a, b, hg, r⟩ := h
  exact ⟨cur, a, b, (hb.block g hlt).trans hg, r⟩
theorem RowB.grown {w w' : World} {g : Nat} {l : List UInt8} (h : RowB w g l) {row : Option Nat} (hg : w.grownBy w' row) (hne : some g ≠ row) : RowB w' g l := by
  have hlt := h.lt
  obtain ⟨cur, a, b, h1, r⟩ := h
  exact ⟨cur, a, b, (hg.block g hlt hne).trans h1, r⟩
theorem RowB.set {w : World} {g : Nat} {l : List UInt8} (h : RowB w g l) (i : Nat) (c : UInt8) : RowB (w.setCell ⟨g, i, none⟩ (.int .u8 (c.toNat : Int))) g (l.set i c) ∧ w.grownBy (w.setCell ⟨g, i, none⟩ (.int .u8 (c.toNat : Int))) (some g) := by
  obtain ⟨cur, a, b, hg, hl, hz, ht⟩ := h
  refine ⟨⟨cur.setIfInBounds i (.int .u8 (c.toNat : Int)), a, b, ?_, ?_, ?_, ?_⟩, ⟨rfl, rfl, rfl, by simp, fun k _ hk => heap_setCell_other w ⟨g, i, none⟩ k _ (fun e => hk (by simp [e]))⟩⟩
  · simp [World.setCell, Array.getElem?_modify, hg]
  · simpa using hl
  · simpa using hz
  · rw [Array.toList_setIfInBounds, List.length_set, List.take_set, ht, List.map_set]
theorem RowB.as {w : World} {g : Nat} {l l' : List UInt8} (h : RowB w g l) (e : l = l') : RowB w g l' := e ▸ h
theorem RowB.str {w : World} {g : Nat} {l : List UInt8} (h : RowB w g l) {n cap : Nat} (hn : n = l.length) : (convert 22 9 (.slice (some ⟨g, 0, none⟩) n cap)).run Tryz.prog w = .ok (.string (mkB l)) w := by
  refine bytes_str hn fun j hj => ?_
  rw [Go.Addr.add_lit, Nat.zero_add]
  exact h.cell hj
/-- '[]byte(s)': a new row of bytes. -/
theorem bytes_of (s : ByteArray) (w : World) : ∃ cap w', s.size ≤ cap ∧ (convert 9 22 (.string s)).run Tryz.prog w = .ok (.slice (some ⟨w.heap.size, 0, none⟩) s.size cap) w' ∧ RowB w' w.heap.size s.data.toList ∧ Below w.heap.size w w' := by
  have hc : s.size ≤ grownCap w s.size 0 5 ∨ ¬ s.size ≤ grownCap w s.size 0 5 := Classical.em _
  have h := run_bytes_of_string (P := Tryz.prog) w 9 22 5 s Tryz.underlying9 Tryz.underlying22 Tryz.underlying5
  have hge : s.size ≤ grownCap w s.size 0 5 := grownCap_ge _ _ _ _
  generalize grownCap w s.size 0 5 = cap at *
  refine ⟨cap, _, hge, h, ?_, ((Below.refl _ _).drew).alloc (by simp) _⟩
  have hs : s.data.toList.length = s.size := by simp
  have hz : (bytesRow s cap).size = cap := by simp only [bytesRow, Array.size_append, Array.size_map, Array.size_replicate]; show s.size + _ = _; omega
  refine ⟨bytesRow s cap, (bytesRow s cap).size, (bytesRow s cap).size + 1, ?_, by rw [hz]; omega, .inl (Nat.le_refl _), ?_⟩
  · show (w.heap.push _)[w.heap.size]? = _
    simp
  · unfold bytesRow
    rw [Array.toList_append, List.take_append_of_le_length (by simp), List.take_of_length_le (by simp)]
    simp
end Go.Proofs.YtjdcdhhbgijaoaaGreatDoor
namespace Go.Proofs.YtjdcdhhbgijaoaaGreatDoor
open Go.ChangeShapes Go.WideShapes Go.ChangeAt Go.RowKit Go.Sort

/-- block g holds the cells cs, and none is frozen -/
def VarAt (w : World) (g : Nat) (t : TypeId) (cs : List Value) : Prop := w.ownsRow 0 t cs.length (.slice (some ⟨g, 0, none⟩) 1 1) 1 cs
theorem VarAt.new (w : World) (t : TypeId) (cs : List Value) : VarAt (w.alloc (.cells cs.toArray t)) w.heap.size t cs :=
  ⟨by simp, .inr ⟨w.heap.size, 1, cs.toArray, rfl, Nat.zero_le _, heap_alloc_new w _, Nat.le_refl _, by unfold maxLen; omega, by simp, by simp⟩⟩
theorem VarAt.lt {w : World} {g : Nat} {t : TypeId} {cs : List Value} (h : VarAt w g t cs) : g < w.heap.size := (World.ownsRow.lt h g rfl).2
theorem VarAt.cell {w : World} {g : Nat} {t : TypeId} {cs : List Value} (h : VarAt w g t cs) {i : Nat} {v : Value} (hv : cs[i]? = some v) : w.cell? ⟨g, i, none⟩ = some v := by
  have hi : i < 1 * cs.length := by have := (List.getElem?_eq_some_iff.1 hv).1; omega
  rw [World.ownsRow.cellAt h i hi]
  exact hv
theorem VarAt.free {w : World} {g : Nat} {t : TypeId} {cs : List Value} (h : VarAt w g t cs) (i : Nat) : w.frozen? ⟨g, i, none⟩ = false := World.ownsRow.frozenAt h i
theorem VarAt.grown {w w' : World} {g : Nat} {t : TypeId} {cs : List Value} (h : VarAt w g t cs) {row : Option Nat} (hg : w.grownBy w' row) (hne : some g ≠ row) : VarAt w' g t cs :=
  World.ownsRow.kept h hg (.inr (by simpa [Value.ownBlock] using hne))
theorem VarAt.kept {w w' : World} {g : Nat} {t : TypeId} {cs : List Value} (h : VarAt w g t cs) (hb : Below w.heap.size w w') : VarAt w' g t cs := own_below h hb
theorem VarAt.set {w : World} {g : Nat} {t : TypeId} {cs : List Value} (h : VarAt w g t cs) (i : Nat) (v : Value) : VarAt (w.setCell ⟨g, i, none⟩ v) g t (cs.set i v) ∧ w.grownBy (w.setCell ⟨g, i, none⟩ v) (some g) := by
  obtain ⟨h1, h2⟩ := World.ownsRow.stored h i v
  refine ⟨?_, h2⟩
  unfold VarAt
  rw [List.length_set]
  exact h1
theorem VarAt.as {w : World} {g : Nat} {t : TypeId} {cs cs' : List Value} (h : VarAt w g t cs) (e : cs = cs') : VarAt w g t cs' := e ▸ h
/-- One row is written, then another that is new. -/
theorem grown_over {a b c : World} {r : Option Nat} {g : Nat} (h : a.grownBy b r) (k : b.grownBy c (some g)) (hg : a.heap.size ≤ g) : a.grownBy c r :=
  ⟨k.os.trans h.os, k.tape.trans h.tape, k.output.trans h.output, Nat.le_trans h.size k.size, fun i hi hr => (k.block i (Nat.lt_of_lt_of_le hi h.size) (fun e => by cases e; omega)).trans (h.block i hi hr)⟩
theorem grown_below {a b c : World} {r : Option Nat} (h : a.grownBy b r) (k : Below b.heap.size b c) : a.grownBy c r := grownBy_trans h (grown_of_below k)
theorem below_of_grown {a b : World} (h : a.grownBy b none) : Below a.heap.size a b := (Below.refl _ _).grown h (Nat.le_refl _) (fun k hk => by cases hk)
theorem own_ne {w : World} {base : Nat} {e : TypeId} {sz : Nat} {v : Value} {n : Nat} {L : List Value} (h : w.ownsRow base e sz v n L) {G : Nat} (hG : G < base) : some G ≠ v.ownBlock := fun he => by have := (h.lt G he.symm).1; omega
end Go.Proofs.YtjdcdhhbgijaoaaGreatDoor

namespace Go.Proofs.YtjdcdhhbgijaoaaGreatDoor
open Go.ChangeShapes Go.WideShapes Go.ChangeAt Go.RowKit Go.Sort

theorem VarAt.range {w : World} {g : Nat} {t : TypeId} {cs : List Value} (h : VarAt w g t cs) : w.rangeAt g 0 cs := fun j v hv => by
  rw [Nat.zero_add]; exact h.cell hv
theorem VarAt.there {w : World} {g : Nat} {t : TypeId} {cs : List Value} (h : VarAt w g t cs) {n : Nat} (hn : n = cs.length) : w.there g 0 n := fun j hj => by
  rw [Nat.zero_add]
  subst hn
  refine ⟨?_, h.free j⟩
  rw [h.cell (List.getElem?_eq_getElem hj)]
  rfl
theorem set_cells (g : Nat) (t : TypeId) : ∀ (vs : List Value) (o : Nat) (w : World) (cs : List Value), VarAt w g t cs → w.grownBy (w.setCells g o vs) (some g)
  | [], _, w, _, _ => grown_of_below (Below.refl _ _)
  | v :: r, o, w, cs, V => by
    obtain ⟨V2, k⟩ := V.set o v
    exact grownBy_trans k (set_cells g t r (o + 1) _ _ V2)
theorem results_cell_var {P : Program} {fn : Func} {p : Tmp} {ty : TypeId} (h : fn.results = #[.cell p ty]) (tmps : Array Value) (w : World) (a : Addr) (v : Value)
    (hp : tmps.getD p undef = .pointer (some a)) (hv : (loadVar ty a).run P w = .ok v w) : (results fn tmps).run P w = .ok v w := by
  have hp' : tmps[p]?.getD undef = .pointer (some a) := by simpa using hp
  simp [results, h, hp', asAddr, hv]
theorem VarAt.setMany {g : Nat} {t : TypeId} : ∀ (vs : List Value) (o : Nat) {w : World} {cs : List Value}, VarAt w g t cs → VarAt (w.setCells g o vs) g t (setR cs o vs)
  | [], _, _, _, h => h
  | v :: r, o, _, _, h => VarAt.setMany r (o + 1) (h.set o v).1
/-- a variable is stored as a whole -/
theorem VarAt.put {w : World} {g : Nat} {t : TypeId} {cs : List Value} (h : VarAt w g t cs) (vs : List Value) (hl : vs.length = cs.length) : VarAt (w.setCells g 0 vs) g t vs ∧ w.grownBy (w.setCells g 0 vs) (some g) := by
  refine ⟨?_, set_cells g t vs 0 w cs h⟩
  have h2 := VarAt.setMany vs 0 h
  have e := setR_append vs [] cs 0 rfl (by omega)
  rw [List.nil_append, List.nil_append, hl, List.drop_length, List.append_nil] at e
  rwa [e] at h2
end Go.Proofs.YtjdcdhhbgijaoaaGreatDoor

namespace Go.Proofs.YtjdcdhhbgijaoaaGreatDoor
open Go.ChangeShapes Go.WideShapes Go.ChangeAt Go.RowKit Go.Sort

/-- block it is the iterator of a range over s, at pos -/
def IterAt (w : World) (it : Nat) (s : ByteArray) (pos : Nat) : Prop := w.heap[it]? = some (.stringIter s pos)
theorem IterAt.new (w : World) (s : ByteArray) : IterAt (w.iter s 0) w.heap.size s 0 := World.iter_heap w s 0
theorem IterAt.lt {w : World} {it : Nat} {s : ByteArray} {pos : Nat} (h : IterAt w it s pos) : it < w.heap.size := (Array.getElem?_eq_some_iff.1 h).1
theorem IterAt.kept {w w' : World} {it : Nat} {s : ByteArray} {pos : Nat} (h : IterAt w it s pos) (hb : Below w.heap.size w w') : IterAt w' it s pos := (hb.block it h.lt).trans h
theorem IterAt.grown {w w' : World} {it : Nat} {s : ByteArray} {pos : Nat} (h : IterAt w it s pos) {row : Option Nat} (hg : w.grownBy w' row) (hne : some it ≠ row) : IterAt w' it s pos := (hg.block it h.lt hne).trans h
theorem IterAt.pos {w : World} {it : Nat} {s : ByteArray} {pos : Nat} (h : IterAt w it s pos) : w.iterPos it = pos := by
  unfold IterAt at h
  simp [World.iterPos, h]
theorem iter_below (w : World) (s : ByteArray) : Below w.heap.size w (w.iter s 0) := (Below.refl _ _).alloc (Nat.le_refl _) _
theorem next_at {P : Program} {w : World} {it : Nat} {s : ByteArray} {pos : Nat} (h : IterAt w it s pos) (hlt : pos < s.size) (ha : (s[pos]).toNat < 128) :
    ∃ w', (∀ ty : TypeId, (Instr.next (.pointer (some ⟨it, 0, none⟩)) true ty).run P w = .ok (.tuple #[.bool true, .int .i64 pos, .int .i32 (s[pos]).toNat]) w') ∧ IterAt w' it s (pos + 1) ∧ w.grownBy w' (some it) := by
  have hit := h.lt
  refine ⟨{ w with heap := w.heap.setIfInBounds it (.stringIter s (pos + 1)) }, ?_, ?_, ⟨rfl, rfl, rfl, by simp, fun k hk hne => ?_⟩⟩
  · intro ty
    unfold IterAt at h
    simp only [Instr.next, getObj, setObj, Sem.run_bind, Sem.run, h, Result.andThen, hlt, if_true, decode_ascii s pos hlt ha]
    simp [goInt]
  · unfold IterAt
    simp [hit]
  · have : it ≠ k := fun e => hne (by rw [e])
    simp [this]
theorem next_end {P : Program} {w : World} {it : Nat} {s : ByteArray} {pos : Nat} (h : IterAt w it s pos) (hlt : ¬ pos < s.size) :
    ∀ ty : TypeId, (Instr.next (.pointer (some ⟨it, 0, none⟩)) true ty).run P w = .ok (.tuple #[.bool false]) w := by
  intro ty
  unfold IterAt at h
  simp [Instr.next, getObj, Sem.run, h, hlt]
end Go.Proofs.YtjdcdhhbgijaoaaGreatDoor

namespace Go.Proofs.YtjdcdhhbgijaoaaGreatDoor
open Go.ChangeShapes Go.WideShapes Go.ChangeAt Go.RowKit Go.Sort

end Go.Proofs.YtjdcdhhbgijaoaaGreatDoor

namespace Go.Proofs.YtjdcdhhbgijaoaaGreatDoor
open Go.ChangeShapes Go.WideShapes Go.ChangeAt Go.RowKit Go.Sort

/-- what is known of new memory -/
def NewAt (X wz : World) (cs : Array Value) : Prop := (∀ i v, cs[i]? = some v → wz.cell? ⟨X.heap.size, i, none⟩ = some v) ∧ (∀ i, wz.frozen? ⟨X.heap.size, i, none⟩ = false) ∧ wz.heap.size = X.heap.size + 1
theorem newAt (X : World) (cs : Array Value) (t : TypeId) : NewAt X (X.alloc (.cells cs t)) cs :=
  ⟨fun _ _ h => cell_new0 X cs t h, fun i => by simp [go_sem], by simp⟩
end Go.Proofs.YtjdcdhhbgijaoaaGreatDoor

namespace Go.Proofs.YtjdcdhhbgijaoaaGreatDoor
open Go.ChangeShapes Go.WideShapes Go.ChangeAt Go.RowKit Go.Sort

theorem step_new {P : Program} {c : Prop} [Decidable c] {o : Oper} {a : Act} {X : World} {cs : Array Value} {t : TypeId} {K : Act → World → Prop} {Q : Exit → Act → World → Prop} {E : Prop}
    (h : ∀ wz, Below X.heap.size X wz → NewAt X wz cs → (∀ base e sz v n L, X.ownsRow base e sz v n L → wz.ownsRow base e sz v n L) → if c then o.wp P a wz K Q else E) : if c then o.wp P a (X.alloc (.cells cs t)) K Q else E :=
  h _ ((Below.refl _ _).alloc (Nat.le_refl _) _) (newAt X cs t) (fun _ _ _ _ _ _ ho => own_alloc ho _)
theorem step_new_drew {P : Program} {c : Prop} [Decidable c] {o : Oper} {a : Act} {X : World} {cs : Array Value} {t : TypeId} {K : Act → World → Prop} {Q : Exit → Act → World → Prop} {E : Prop}
    (h : ∀ wz, Below X.drew.heap.size X.drew wz → NewAt X wz cs → (∀ base e sz v n L, X.drew.ownsRow base e sz v n L → wz.ownsRow base e sz v n L) → if c then o.wp P a wz K Q else E) : if c then o.wp P a (X.alloc (.cells cs t)).drew K Q else E :=
  step_new (X := X.drew) h
theorem flat_snoc {α : Type} (enc : α → List Value) (xs : List α) (x : α) : xs.flatMap enc ++ enc x = (xs ++ [x]).flatMap enc := by simp
end Go.Proofs.YtjdcdhhbgijaoaaGreatDoor
