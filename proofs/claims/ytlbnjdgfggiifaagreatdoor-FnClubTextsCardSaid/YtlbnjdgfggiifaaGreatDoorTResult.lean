/- The Result type's own functions in the statements (sz, szS, to, toS, eq, eqS, markS): what they compute. No condition but bounds on sizes. -/
import Derived.Test.YtlbnjdgfggiifaaGreatDoorBase
namespace Go.Proofs.YtlbnjdgfggiifaaGreatDoor
open Go.ChangeShapes Go.WideShapes Go.ChangeAt Go.RowKit Go.Sort

structure Res where
  a : ByteArray
  b : ByteArray
  sa : Int
  sb : Int
def Res.enc (m : Res) : List Value := [.string m.a, .string m.b, .int .i64 m.sa, .int .i64 m.sb]
theorem Res.enc_len (m : Res) : (Res.enc m).length = 4 := rfl
/-- What memory bounds: no string is longer than a string can be. -/
def Res.fit (m : Res) : Prop := m.a.size ≤ 9223372036854775807 ∧ m.b.size ≤ 9223372036854775807
def Res.sz (m : Res) : Nat := m.a.size + m.b.size

theorem infoResult : (Tryz.prog.info? 33).map (fun i => (i.zero, i.size, i.bytes)) = some (some (.agg #[.string ⟨#[]⟩, .string ⟨#[]⟩, .int .i64 0, .int .i64 0]), 4, 48) := by kernel_rfl

/-- an element that bears the marks from c on; n of them -/
def Res.mk1 (c : Int) : Res := ⟨mtext c.toNat, mtext (c + 1).toNat, (c + 1 + 1), (c + 1 + 1 + 1)⟩
def Res.marks (c : Int) (n : Nat) : List Res := (List.range n).map fun (i : Nat) => Res.mk1 (c + 4 * i)
theorem Res.marks_len (c : Int) (n : Nat) : (Res.marks c n).length = n := by simp [Res.marks]
theorem Res.marks_get (c : Int) (n : Nat) {k : Nat} (h : k < (Res.marks c n).length) : (Res.marks c n)[k] = Res.mk1 (c + 4 * k) := by simp [Res.marks]

end Go.Proofs.YtlbnjdgfggiifaaGreatDoor
