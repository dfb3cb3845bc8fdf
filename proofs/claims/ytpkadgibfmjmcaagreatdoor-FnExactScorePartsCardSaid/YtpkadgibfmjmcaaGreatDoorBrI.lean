/- Contracts: the program's directions. No condition. -/
import Derived.Test.YtpkadgibfmjmcaaGreatDoorBrC
import Derived.Test.YtpkadgibfmjmcaaGreatDoorBrF
import Derived.Laws.BytesArg
namespace Go.Proofs.YtpkadgibfmjmcaaGreatDoor
open Go.ChangeShapes Go.WideShapes Go.ChangeAt Go.RowKit Go.Sort

def dirV (down : Bool) : Value := if down then .iface 219 (.agg #[]) else .iface 220 (.agg #[])
theorem directionOf_any (down : Bool) (w : World) : Calls Tryz.prog 167 #[.bool down] w fun e w' => e = .returned (dirV down) ∧ w = w' := by
  cases down
  · go_enter Tryz.func167, Tryz.ntmps167
    go_wp2
    go_ret
    exact ⟨rfl, rfl⟩
  · go_enter Tryz.func167, Tryz.ntmps167
    go_wp2
    go_ret
    exact ⟨rfl, rfl⟩
theorem rcross_any (w : World) : Calls Tryz.prog 268 #[.agg #[]] w fun e w' => e = .returned (dirV true) ∧ Below w.heap.size w w' := by
  go_enter Tryz.func268, Tryz.ntmps268
  go_wp2
  go_ret
  exact ⟨rfl, (Below.refl _ _).alloc (Nat.le_refl _) _⟩
theorem dcross_any (w : World) : Calls Tryz.prog 266 #[.agg #[]] w fun e w' => e = .returned (dirV false) ∧ Below w.heap.size w w' := by
  go_enter Tryz.func266, Tryz.ntmps266
  go_wp2
  go_ret
  exact ⟨rfl, (Below.refl _ _).alloc (Nat.le_refl _) _⟩
theorem rat_any (r c k : Int) (w : World) (h : -9223372036854775808 ≤ c + k ∧ c + k ≤ 9223372036854775807) : Calls Tryz.prog 267 #[.agg #[], .int .i64 r, .int .i64 c, .int .i64 k] w fun e w' => e = .returned (.agg #[.int .i64 r, .int .i64 (c + k)]) ∧ Below w.heap.size w w' := by
  obtain ⟨h1, h2⟩ := h
  go_enter Tryz.func267, Tryz.ntmps267
  go_wp2
  go_returns
  exact ⟨rfl, by go_grown⟩
theorem dat_any (r c k : Int) (w : World) (h : -9223372036854775808 ≤ r + k ∧ r + k ≤ 9223372036854775807) : Calls Tryz.prog 265 #[.agg #[], .int .i64 r, .int .i64 c, .int .i64 k] w fun e w' => e = .returned (.agg #[.int .i64 (r + k), .int .i64 c]) ∧ Below w.heap.size w w' := by
  obtain ⟨h1, h2⟩ := h
  go_enter Tryz.func265, Tryz.ntmps265
  go_wp2
  go_returns
  exact ⟨rfl, by go_grown⟩
/-! ### Plain: letters along a line -/
def runD (f : Int → UInt8) : Nat → Int → List UInt8
  | 0, _ => []
  | k + 1, m => if fullC (f m) then f m :: runD f k (m - 1) else []
def runI (f : Int → UInt8) : Nat → Int → List UInt8
  | 0, _ => []
  | k + 1, m => if fullC (f m) then f m :: runI f k (m + 1) else []
theorem runD_full {f : Int → UInt8} {m : Int} {k : Nat} (h : fullC (f m) = true) : runD f (k + 1) m = f m :: runD f k (m - 1) := by rw [runD, if_pos h]
theorem runI_full {f : Int → UInt8} {m : Int} {k : Nat} (h : fullC (f m) = true) : runI f (k + 1) m = f m :: runI f k (m + 1) := by rw [runI, if_pos h]
theorem runD_stop {f : Int → UInt8} {m : Int} {k : Nat} (h : fullC (f m) = false) : runD f k m = [] := by
  cases k with
  | zero => rfl
  | succ k => rw [runD, h]; rfl
theorem runI_stop {f : Int → UInt8} {m : Int} {k : Nat} (h : fullC (f m) = false) : runI f k m = [] := by
  cases k with
  | zero => rfl
  | succ k => rw [runI, h]; rfl
theorem upL_run (F : Fl) (c r : Int) (f : Int → UInt8) (hf : ∀ m, f m = F (r + m) c) : ∀ (k : Nat) (m : Int), upL F c k (r + m) = runD f k m
  | 0, _ => rfl
  | k + 1, m => by
    rw [upL, runD, hf, show r + m - 1 = r + (m - 1) from by omega, upL_run F c r f hf k (m - 1)]
theorem dnL_run (F : Fl) (c r : Int) (f : Int → UInt8) (hf : ∀ m, f m = F (r + m) c) : ∀ (k : Nat) (m : Int), dnL F c k (r + m) = runI f k m
  | 0, _ => rfl
  | k + 1, m => by
    rw [dnL, runI, hf, show r + m + 1 = r + (m + 1) from by omega, dnL_run F c r f hf k (m + 1)]
theorem runD_mem {f : Int → UInt8} {p : UInt8 → Prop} (h : ∀ m, fullC (f m) = true → p (f m)) : ∀ (k : Nat) (m : Int), ∀ x ∈ runD f k m, p x
  | 0, _, x, hx => by simp [runD] at hx
  | k + 1, m, x, hx => by
    unfold runD at hx
    split at hx
    · rename_i h1
      cases hx with
      | head => exact h m h1
      | tail _ hx => exact runD_mem h k (m - 1) x hx
    · cases hx
theorem runI_mem {f : Int → UInt8} {p : UInt8 → Prop} (h : ∀ m, fullC (f m) = true → p (f m)) : ∀ (k : Nat) (m : Int), ∀ x ∈ runI f k m, p x
  | 0, _, x, hx => by simp [runI] at hx
  | k + 1, m, x, hx => by
    unfold runI at hx
    split at hx
    · rename_i h1
      cases hx with
      | head => exact h m h1
      | tail _ hx => exact runI_mem h k (m + 1) x hx
    · cases hx
theorem step_run {pre rest U : List UInt8} {x : UInt8} (h : pre ++ x :: rest = U) : (pre ++ [x]) ++ rest = U := by
  rw [List.append_assoc]; exact h
theorem let_ascii {c : UInt8} (h : letB (c.toNat : Int) = true) : c.toNat < 128 := by
  unfold letB smallB capB at h
  simp only [Bool.or_eq_true, Bool.and_eq_true, decide_eq_true_eq] at h
  omega
/-- the string of a row of bytes of the call's own, a nil one too -/
theorem own_bytes_any {w : World} {base n : Nat} {v : Value} {l : List UInt8} (h : w.ownsRow base 5 1 v n (l.flatMap U8.enc)) (hn : n = l.length) :
    (convert 141 9 v).run Tryz.prog w = .ok (.string (mkB l)) w := by
  rcases h.2 with ⟨rfl, h0⟩ | ⟨g, c, _, rfl, _⟩
  · have hl : l = [] := by
      cases l with
      | nil => rfl
      | cons x l => rw [h0] at hn; simp at hn
    subst hl
    exact run_convert_bytes_nil w 141 5 Tryz.underlying141 Tryz.underlying5 0 0 9 Tryz.underlying9
  · exact own_bytes h hn
end Go.Proofs.YtpkadgibfmjmcaaGreatDoor
