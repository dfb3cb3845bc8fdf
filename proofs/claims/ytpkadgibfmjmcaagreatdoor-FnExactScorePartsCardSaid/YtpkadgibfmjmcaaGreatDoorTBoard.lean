/- The Board type's own functions in the statements (sz, to, eq): what they compute. No condition but bounds on sizes. -/
import Derived.Test.YtpkadgibfmjmcaaGreatDoorTLx
namespace Go.Proofs.YtpkadgibfmjmcaaGreatDoor
open Go.ChangeShapes Go.WideShapes Go.ChangeAt Go.RowKit Go.Sort

structure Brd where
  size : Int
  premium : ByteArray
  cells : ByteArray
def Brd.enc (m : Brd) : List Value := [.int .i64 m.size, .string m.premium, .string m.cells]
theorem Brd.enc_len (m : Brd) : (Brd.enc m).length = 3 := rfl
/-- What memory bounds: no string is longer than a string can be. -/
def Brd.fit (m : Brd) : Prop := m.premium.size ≤ 9223372036854775807 ∧ m.cells.size ≤ 9223372036854775807
def Brd.sz (m : Brd) : Nat := m.premium.size + m.cells.size

set_option maxHeartbeats 1000000 in
theorem szBoard_any (m : Brd) (left : Int) (w : World) (h0 : 0 ≤ left) (h1 : left ≤ 1048576) (hf : m.fit) :
    Calls Tryz.prog 11 #[.agg #[.int .i64 m.size, .string m.premium, .string m.cells], .int .i64 left] w (SzPost w left m.sz) := by
  obtain ⟨hf0, hf1⟩ := hf
  go_enter Tryz.func11, Tryz.ntmps11
  go_wp2
  all_goals
    go_ret
    first
      | exact ⟨_, rfl, .inl rfl, by go_grown⟩
      | exact ⟨_, rfl, .inr ⟨by omega, by simp only [Brd.sz]; omega⟩, by go_grown⟩

set_option maxHeartbeats 1000000 in
theorem toBoard_any (m : Brd) (w : World) :
    Calls Tryz.prog 15 #[.agg #[.int .i64 m.size, .string m.premium, .string m.cells]] w fun e w' => e = .returned (.agg #[.int .i64 m.size, .string m.premium, .string m.cells]) ∧ Below w.heap.size w w' := by
  go_enter Tryz.func15, Tryz.ntmps15
  go_wp2
  go_returns
  exact ⟨rfl, by go_grown⟩

set_option maxHeartbeats 1000000 in
theorem eqBoard_any (m : Brd) (w : World) :
    Calls Tryz.prog 82 #[.agg #[.int .i64 m.size, .string m.premium, .string m.cells], .agg #[.int .i64 m.size, .string m.premium, .string m.cells]] w fun e w' => e = .returned (.bool true) ∧ Below w.heap.size w w' := by
  go_enter Tryz.func82, Tryz.ntmps82
  go_wp2
  go_ret
  exact ⟨rfl, by go_grown⟩

end Go.Proofs.YtpkadgibfmjmcaaGreatDoor
