/- The Member type's own functions in the statements (sz, szS, to, toS, eq, eqS, markS, heldS): what they compute. No condition but bounds on sizes. -/
import Derived.Test.YtlbnjdgfggiifaaGreatDoorBase
namespace Go.Proofs.YtlbnjdgfggiifaaGreatDoor
open Go.ChangeShapes Go.WideShapes Go.ChangeAt Go.RowKit Go.Sort

structure Mem where
  name : ByteArray
  rating : Int
def Mem.enc (m : Mem) : List Value := [.string m.name, .int .i64 m.rating]
theorem Mem.enc_len (m : Mem) : (Mem.enc m).length = 2 := rfl
/-- What memory bounds: no string is longer than a string can be. -/
def Mem.fit (m : Mem) : Prop := m.name.size ≤ 9223372036854775807
def Mem.sz (m : Mem) : Nat := m.name.size

theorem infoMember : (Tryz.prog.info? 53).map (fun i => (i.zero, i.size, i.bytes)) = some (some (.agg #[.string ⟨#[]⟩, .int .i64 0]), 2, 24) := by kernel_rfl

/-- an element that bears the marks from c on; n of them -/
def Mem.mk1 (c : Int) : Mem := ⟨mtext c.toNat, (c + 1)⟩
def Mem.marks (c : Int) (n : Nat) : List Mem := (List.range n).map fun (i : Nat) => Mem.mk1 (c + 2 * i)
theorem Mem.marks_len (c : Int) (n : Nat) : (Mem.marks c n).length = n := by simp [Mem.marks]
theorem Mem.marks_get (c : Int) (n : Nat) {k : Nat} (h : k < (Mem.marks c n).length) : (Mem.marks c n)[k] = Mem.mk1 (c + 2 * k) := by simp [Mem.marks]

end Go.Proofs.YtlbnjdgfggiifaaGreatDoor
