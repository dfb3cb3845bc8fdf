/- Contracts: the program's transposed board, and the words on a board. For valid boards; internal/bytealg's MaxLen is an int (EnvL). -/
import Derived.Test.YtjdcdhhbgijaoaaGreatDoorWoA
import Derived.Test.YtjdcdhhbgijaoaaGreatDoorSplI
import Derived.Test.YtjdcdhhbgijaoaaGreatDoorFpF
import Derived.Deep.AppendLies
import Derived.Deep.DeepCutAuto
namespace Go.Proofs.YtjdcdhhbgijaoaaGreatDoor
open Go.ChangeShapes Go.WideShapes Go.ChangeAt Go.RowKit Go.Sort

set_option maxRecDepth 100000 in
set_option maxHeartbeats 4000000 in
theorem transpose_any (b : Brd) (n : Nat) (w : World) (hb0 : b.Good n) :
    Calls Tryz.prog 78 #[.agg #[.int .i64 b.size, .string b.premium, .string b.cells]] w fun e w' => e = .returned (.agg #[.int .i64 b.turn.size, .string b.turn.premium, .string b.turn.cells]) ∧ Below w.heap.size w w' := by
  obtain ⟨tn, htn⟩ : ∃ tn : ByteArray → ByteArray, ∀ s, tn s = mkB (turnB n s.data.toList) := ⟨_, fun _ => rfl⟩
  have hnn : b.size.toNat = n := by rw [hb0.size]; simp
  have HT : Hid (∀ s W, s.size = n * n → Calls Tryz.prog 172 #[.string s, .int .i64 n] W fun e w' => e = .returned (.string (tn s)) ∧ Below W.heap.size W w') := Lib.hid (fun s W hs => by
    rw [htn]
    exact transposed_any s n W hb0.lo hb0.hi hs)
  have HR : Hid (Ending.returned (.agg #[.int .i64 b.turn.size, .string b.turn.premium, .string b.turn.cells]) = .returned (.agg #[.int .i64 n, .string (tn b.premium), .string (tn b.cells)])) := Lib.hid (by
    rw [htn, htn]
    unfold Brd.turn
    rw [hnn, hb0.size])
  rw [HR.out, hb0.size]
  have hp := Lib.hid hb0.prem
  have hc := Lib.hid hb0.cells
  clear HR htn hnn hb0
  obtain ⟨w1, hw1⟩ : ∃ w1, w1 = (w.alloc (.cells #[.int .i64 n, .string b.premium, .string b.cells] 25)).alloc (.cells #[.int .i64 0, .string ⟨#[]⟩, .string ⟨#[]⟩] 25) := ⟨_, rfl⟩
  have hx0 : Below w.heap.size w w1 := by rw [hw1]; exact ((Below.refl _ _).alloc (Nat.le_refl _) _).alloc (by simp) _
  have VB : Hid (VarAt w1 w.heap.size 25 [.int .i64 n, .string b.premium, .string b.cells]) := by
    rw [hw1]
    exact Lib.hid ((VarAt.new w 25 [.int .i64 n, .string b.premium, .string b.cells]).kept ((Below.refl _ _).alloc (Nat.le_refl _) _))
  have V0 : Hid (VarAt w1 (w.heap.size + 1) 25 [.int .i64 0, .string ⟨#[]⟩, .string ⟨#[]⟩]) := by
    rw [hw1]
    have := VarAt.new (w.alloc (.cells #[.int .i64 n, .string b.premium, .string b.cells] 25)) 25 [.int .i64 0, .string ⟨#[]⟩, .string ⟨#[]⟩]
    simp only [World.size_alloc] at this
    exact Lib.hid this
  have HW1 := Lib.hid hw1
  clear hw1
  go_enter Tryz.func78, Tryz.ntmps78
  go_upto_region 1 with fail
  rw [← HW1.out]
  clear HW1
  have hk := hx0.trans ((Below.refl w1.heap.size w1).drew.mono hx0.size)
  have hk1 : Below w1.heap.size w1 w1.drew := (Below.refl _ _).drew
  have kv := Lib.hid (V0.out.kept hk1)
  have kg := Lib.hid (VB.out.kept hk1)
  clear V0 VB hk1 hx0
  go_region_held3 (fun w' => w'.cell? ⟨w.heap.size, 0, none⟩ = some (.int .i64 n) ∧ w'.cell? ⟨w.heap.size, 1, none⟩ = some (.string b.premium) ∧ w'.cell? ⟨w.heap.size, 2, none⟩ = some (.string b.cells))
    (first | exact ⟨kg.out.cell (i := 0) rfl, kg.out.cell (i := 1) rfl, kg.out.cell (i := 2) rfl⟩ | exact ⟨set3_cell (by omega) (kg.out.cell (i := 0) rfl), set3_cell (by omega) (kg.out.cell (i := 1) rfl), set3_cell (by omega) (kg.out.cell (i := 2) rfl)⟩)
    ((go_at_call 172; refine (HT.out _ _ (by first | exact hp.out | exact hc.out)).mono ?_; rintro e wq ⟨rfl, hdq⟩; replace kv := Lib.hid (kv.out.kept hdq); replace kg := Lib.hid (kg.out.kept hdq); replace hk := hk.trans (hdq.mono hk.size); clear hdq; (try clear q0 q1 q2 p0 p1 p2); have q0 := kv.out.cell (i := 0) rfl; have q1 := kv.out.cell (i := 1) rfl; have q2 := kv.out.cell (i := 2) rfl; have p0 := kv.out.free 0; have p1 := kv.out.free 1; have p2 := kv.out.free 2))
  all_goals
    obtain ⟨o0, k0⟩ := kv.out.set 0 (.int .i64 n)
    obtain ⟨o1, k1⟩ := o0.set 1 (.string (tn b.premium))
    obtain ⟨o2, k2⟩ := o1.set 2 (.string (tn b.cells))
    have GG := grownBy_trans (grownBy_trans k0 k1) k2
    have hb9 := hk.grown GG hk.size (fun q h => by cases h; omega)
    have e0 := o2.cell (i := 0) (v := .int .i64 n) rfl
    have e1 := o2.cell (i := 1) (v := .string (tn b.premium)) rfl
    have e2 := o2.cell (i := 2) (v := .string (tn b.cells)) rfl
    clear o0 o1 o2 k0 k1 k2 GG
    go_wp2
    refine bodyPost_ret (v := .agg #[.int .i64 n, .string (tn b.premium), .string (tn b.cells)]) (by simp [results, Tryz.results78, go_sem, e0, e1, e2]) rfl ?_
    exact ⟨rfl, hb9⟩
end Go.Proofs.YtjdcdhhbgijaoaaGreatDoor
