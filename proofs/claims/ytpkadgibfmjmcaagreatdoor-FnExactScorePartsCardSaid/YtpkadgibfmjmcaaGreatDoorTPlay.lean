/- The Play type's own functions in the statements (sz, to, eq): what they compute. No condition but bounds on sizes. -/
import Derived.Test.YtpkadgibfmjmcaaGreatDoorTLx
namespace Go.Proofs.YtpkadgibfmjmcaaGreatDoor
open Go.ChangeShapes Go.WideShapes Go.ChangeAt Go.RowKit Go.Sort

structure Ply where
  row : Int
  col : Int
  down : Bool
  word : ByteArray
def Ply.enc (m : Ply) : List Value := [.int .i64 m.row, .int .i64 m.col, .bool m.down, .string m.word]
theorem Ply.enc_len (m : Ply) : (Ply.enc m).length = 4 := rfl
/-- What memory bounds: no string is longer than a string can be. -/
def Ply.fit (m : Ply) : Prop := m.word.size ≤ 9223372036854775807
def Ply.sz (m : Ply) : Nat := m.word.size

set_option maxHeartbeats 1000000 in
theorem szPlay_any (m : Ply) (left : Int) (w : World) (h0 : 0 ≤ left) (h1 : left ≤ 1048576) (hf : m.fit) :
    Calls Tryz.prog 12 #[.agg #[.int .i64 m.row, .int .i64 m.col, .bool m.down, .string m.word], .int .i64 left] w (SzPost w left m.sz) := by
  have hf0 : m.word.size ≤ 9223372036854775807 := hf
  go_enter Tryz.func12, Tryz.ntmps12
  go_wp2
  all_goals
    go_ret
    first
      | exact ⟨_, rfl, .inl rfl, by go_grown⟩
      | exact ⟨_, rfl, .inr ⟨by omega, by simp only [Ply.sz]; omega⟩, by go_grown⟩

set_option maxHeartbeats 1000000 in
theorem toPlay_any (m : Ply) (w : World) :
    Calls Tryz.prog 16 #[.agg #[.int .i64 m.row, .int .i64 m.col, .bool m.down, .string m.word]] w fun e w' => e = .returned (.agg #[.int .i64 m.row, .int .i64 m.col, .bool m.down, .string m.word]) ∧ Below w.heap.size w w' := by
  go_enter Tryz.func16, Tryz.ntmps16
  go_wp2
  go_returns
  exact ⟨rfl, by go_grown⟩

set_option maxHeartbeats 1000000 in
theorem eqPlay_any (m : Ply) (w : World) :
    Calls Tryz.prog 70 #[.agg #[.int .i64 m.row, .int .i64 m.col, .bool m.down, .string m.word], .agg #[.int .i64 m.row, .int .i64 m.col, .bool m.down, .string m.word]] w fun e w' => e = .returned (.bool true) ∧ Below w.heap.size w w' := by
  go_enter Tryz.func70, Tryz.ntmps70
  go_wp2
  go_ret
  exact ⟨rfl, by go_grown⟩

end Go.Proofs.YtpkadgibfmjmcaaGreatDoor
