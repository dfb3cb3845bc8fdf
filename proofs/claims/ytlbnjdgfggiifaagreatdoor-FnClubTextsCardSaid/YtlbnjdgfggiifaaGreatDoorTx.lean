/- Plain definitions: texts and numbers in rows, one cell each. No condition. · The statements' own functions on []string (sz, to, eq, mark, held): what they compute. No condition but bounds on sizes. · The statements' own functions on []int64 (sz, to, eq, mark, held): what they compute. No condition but bounds on sizes. · Contracts: the statements' own size, copy and comparison of a grid and of a lexicon. No condition but that a length fits an int. · The Board type's own functions in the statements (sz, to, eq): what they compute. No condition but bounds on sizes. · The Play type's own functions in the statements (sz, to, eq): what they compute. No condition but bounds on sizes. -/
import Derived.Test.YtlbnjdgfggiifaaGreatDoorBase
namespace Go.Proofs.YtlbnjdgfggiifaaGreatDoor
open Go.ChangeShapes Go.WideShapes Go.ChangeAt Go.RowKit Go.Sort

def Tx.enc (s : ByteArray) : List Value := [.string s]
theorem Tx.enc_len (s : ByteArray) : (Tx.enc s).length = 1 := rfl
def I64.enc (x : Int) : List Value := [.int .i64 x]
theorem I64.enc_len (x : Int) : (I64.enc x).length = 1 := rfl
theorem tx_one (s : ByteArray) : ∀ u ∈ Tx.enc s, u.oneCell' = true := by
  intro u hu
  simp only [Tx.enc, List.mem_cons, List.not_mem_nil, or_false] at hu
  subst hu
  rfl
theorem i64_one (x : Int) : ∀ u ∈ I64.enc x, u.oneCell' = true := by
  intro u hu
  simp only [I64.enc, List.mem_cons, List.not_mem_nil, or_false] at hu
  subst hu
  rfl
theorem new_tx (w : World) (x : ByteArray) (e : TypeId) : ∀ j u, (Tx.enc x)[j]? = some u → (w.alloc (.cells #[.string x] e)).cell? ((⟨w.heap.size, 0, none⟩ : Addr).add j) = some u := by
  intro j u hu
  rw [Go.Addr.add_lit, Nat.zero_add]
  match j, hu with
  | 0, hu =>
    simp only [Tx.enc, List.getElem?_cons_zero, Option.some.injEq] at hu
    subst hu
    exact cell_new0 w _ e rfl
  | j + 1, hu => simp [Tx.enc] at hu
theorem new_i64 (w : World) (x : Int) (e : TypeId) : ∀ j u, (I64.enc x)[j]? = some u → (w.alloc (.cells #[.int .i64 x] e)).cell? ((⟨w.heap.size, 0, none⟩ : Addr).add j) = some u := by
  intro j u hu
  rw [Go.Addr.add_lit, Nat.zero_add]
  match j, hu with
  | 0, hu =>
    simp only [I64.enc, List.getElem?_cons_zero, Option.some.injEq] at hu
    subst hu
    exact cell_new0 w _ e rfl
  | j + 1, hu => simp [I64.enc] at hu
theorem infoTx : (Tryz.prog.info? 9).map (fun i => (i.zero, i.size, i.bytes)) = some (some (.string ⟨#[]⟩), 1, 16) := by kernel_rfl
theorem infoI64 : (Tryz.prog.info? 2).map (fun i => (i.zero, i.size, i.bytes)) = some (some (.int .i64 0), 1, 8) := by kernel_rfl
/-- texts in a row of the call's own -/
def TextsPost (w : World) (xs : List ByteArray) (e : Ending) (w' : World) : Prop :=
  ∃ g cap, e = .returned (.slice (some ⟨g, 0, none⟩) xs.length cap) ∧ w'.ownsRow w.heap.size 9 1 (.slice (some ⟨g, 0, none⟩) xs.length cap) xs.length (xs.flatMap Tx.enc) ∧ Below w.heap.size w w'
end Go.Proofs.YtlbnjdgfggiifaaGreatDoor

namespace Go.Proofs.YtlbnjdgfggiifaaGreatDoor
open Go.ChangeShapes Go.WideShapes Go.ChangeAt Go.RowKit Go.Sort

/-- elements that bear the marks from c on; n of them -/
def Tx.marks (c : Int) (n : Nat) : List ByteArray := (List.range n).map fun (i : Nat) => mtext (c + i).toNat
theorem Tx.marks_len (c : Int) (n : Nat) : (Tx.marks c n).length = n := by simp [Tx.marks]
theorem Tx.marks_get (c : Int) (n : Nat) {k : Nat} (h : k < (Tx.marks c n).length) : (Tx.marks c n)[k] = mtext (c + k).toNat := by simp [Tx.marks]

end Go.Proofs.YtlbnjdgfggiifaaGreatDoor

namespace Go.Proofs.YtlbnjdgfggiifaaGreatDoor
open Go.ChangeShapes Go.WideShapes Go.ChangeAt Go.RowKit Go.Sort

/-- elements that bear the marks from c on; n of them -/
def I64.marks (c : Int) (n : Nat) : List Int := (List.range n).map fun (i : Nat) => c + i
theorem I64.marks_len (c : Int) (n : Nat) : (I64.marks c n).length = n := by simp [I64.marks]
theorem I64.marks_get (c : Int) (n : Nat) {k : Nat} (h : k < (I64.marks c n).length) : (I64.marks c n)[k] = c + k := by simp [I64.marks]

end Go.Proofs.YtlbnjdgfggiifaaGreatDoor

namespace Go.Proofs.YtlbnjdgfggiifaaGreatDoor
open Go.ChangeShapes Go.WideShapes Go.ChangeAt Go.RowKit Go.Sort

/-- a lexicon in new memory -/
def LexPost (w : World) (ms : List ByteArray) (en : Ending) (w' : World) : Prop :=
  ∃ g, en = .returned (.agg #[.slice (some ⟨g, 0, none⟩) ms.length ms.length]) ∧ w'.ownsRow w.heap.size 9 1 (.slice (some ⟨g, 0, none⟩) ms.length ms.length) ms.length (ms.flatMap Tx.enc) ∧ Below w.heap.size w w'
end Go.Proofs.YtlbnjdgfggiifaaGreatDoor

namespace Go.Proofs.YtlbnjdgfggiifaaGreatDoor
open Go.ChangeShapes Go.WideShapes Go.ChangeAt Go.RowKit Go.Sort

structure Brd where
  size : Int
  premium : ByteArray
  cells : ByteArray
def Brd.enc (m : Brd) : List Value := [.int .i64 m.size, .string m.premium, .string m.cells]
theorem Brd.enc_len (m : Brd) : (Brd.enc m).length = 3 := rfl
/-- What memory bounds: no string is longer than a string can be. -/
def Brd.fit (m : Brd) : Prop := m.premium.size ≤ 9223372036854775807 ∧ m.cells.size ≤ 9223372036854775807
def Brd.sz (m : Brd) : Nat := m.premium.size + m.cells.size

end Go.Proofs.YtlbnjdgfggiifaaGreatDoor

namespace Go.Proofs.YtlbnjdgfggiifaaGreatDoor
open Go.ChangeShapes Go.WideShapes Go.ChangeAt Go.RowKit Go.Sort

structure Ply where
  row : Int
  col : Int
  down : Bool
  word : ByteArray
def Ply.enc (m : Ply) : List Value := [.int .i64 m.row, .int .i64 m.col, .bool m.down, .string m.word]
theorem Ply.enc_len (m : Ply) : (Ply.enc m).length = 4 := rfl
/-- What memory bounds: no string is longer than a string can be. -/
def Ply.fit (m : Ply) : Prop := m.word.size ≤ 9223372036854775807
def Ply.sz (m : Ply) : Nat := m.word.size

end Go.Proofs.YtlbnjdgfggiifaaGreatDoor
