/- Contracts: plays and boards turned over, both sides; equal plays and boards compared. For whatever board and play. -/
import Derived.Test.YtjdcdhhbgijaoaaGreatDoorFpF
import Derived.Test.YtjdcdhhbgijaoaaGreatDoorWoB
namespace Go.Proofs.YtjdcdhhbgijaoaaGreatDoor
open Go.ChangeShapes Go.WideShapes Go.ChangeAt Go.RowKit Go.Sort

/-- the board turned over, and a code -/
def turnOut (b : Brd) : Brd × Int := if b.ok then (b.turn, 0) else (⟨0, ⟨#[]⟩, ⟨#[]⟩⟩, 1)
theorem turn_no {b : Brd} (h : b.ok = false) : turnOut b = (⟨0, ⟨#[]⟩, ⟨#[]⟩⟩, 1) := by unfold turnOut; rw [h]; rfl
theorem turn_yes {b : Brd} (h : b.ok = true) : turnOut b = (b.turn, 0) := by unfold turnOut; rw [h]; rfl
set_option maxRecDepth 100000 in
set_option maxHeartbeats 2000000 in
theorem TransposeBoard_any (b : Brd) (w : World) (hf : b.fit) :
    Calls Tryz.prog 13 #[.agg #[.int .i64 b.size, .string b.premium, .string b.cells]] w fun e w' => e = .returned (.tuple #[.agg #[.int .i64 (turnOut b).1.size, .string (turnOut b).1.premium, .string (turnOut b).1.cells], .int .i64 (turnOut b).2]) ∧ Below w.heap.size w w' := by
  obtain ⟨w2, hw2⟩ : ∃ w2, w2 = (w.alloc (.cells #[.int .i64 b.size, .string b.premium, .string b.cells] 25)).alloc (.cells #[.int .i64 0, .string ⟨#[]⟩, .string ⟨#[]⟩] 25) := ⟨_, rfl⟩
  have hb : Below w.heap.size w w2 := by rw [hw2]; exact ((Below.refl _ _).alloc (Nat.le_refl _) _).alloc (by simp) _
  have VB : Hid (VarAt w2 w.heap.size 25 [.int .i64 b.size, .string b.premium, .string b.cells]) := by
    rw [hw2]
    exact Lib.hid ((VarAt.new w 25 [.int .i64 b.size, .string b.premium, .string b.cells]).kept ((Below.refl _ _).alloc (Nat.le_refl _) _))
  have VR : Hid (VarAt w2 (w.heap.size + 1) 25 [.int .i64 0, .string ⟨#[]⟩, .string ⟨#[]⟩]) := by
    rw [hw2]
    have := VarAt.new (w.alloc (.cells #[.int .i64 b.size, .string b.premium, .string b.cells] 25)) 25 [.int .i64 0, .string ⟨#[]⟩, .string ⟨#[]⟩]
    simp only [World.size_alloc] at this
    exact Lib.hid this
  have HW2 := Lib.hid hw2
  clear hw2
  cases hk : b.ok with
  | false =>
    rw [turn_no hk]
    go_enter Tryz.func13, Tryz.ntmps13
    go_upto_region 1 with fail
    rw [← HW2.out]
    clear HW2
    have b0 := VB.out.cell (i := 0) rfl
    have b1 := VB.out.cell (i := 1) rfl
    have b2 := VB.out.cell (i := 2) rfl
    go_wp2_with fail
    refine (ValidBoard_any b _ hf).mono ?_
    rintro e w3 ⟨rfl, hd⟩
    rw [hk]
    clear hk b0 b1 b2
    replace hb := hb.trans (hd.mono hb.size)
    replace VR := Lib.hid (VR.out.kept hd)
    clear hd
    have t0 := VR.out.cell (i := 0) rfl
    have t1 := VR.out.cell (i := 1) rfl
    have t2 := VR.out.cell (i := 2) rfl
    have u0 := VR.out.free 0
    have u1 := VR.out.free 1
    have u2 := VR.out.free 2
    obtain ⟨o0, k0⟩ := VR.out.set 0 (.int .i64 0)
    obtain ⟨o1, k1⟩ := o0.set 1 (.string ⟨#[]⟩)
    obtain ⟨o2, k2⟩ := o1.set 2 (.string ⟨#[]⟩)
    have GG := grownBy_trans (grownBy_trans k0 k1) k2
    have hb9 := hb.grown GG hb.size (fun q h => by cases h; omega)
    have e0 := o2.cell (i := 0) (v := .int .i64 0) rfl
    have e1 := o2.cell (i := 1) (v := .string ⟨#[]⟩) rfl
    have e2 := o2.cell (i := 2) (v := .string ⟨#[]⟩) rfl
    clear o0 o1 o2 k0 k1 k2 GG
    go_wp2
    refine bodyPost_ret (v := .tuple #[.agg #[.int .i64 0, .string ⟨#[]⟩, .string ⟨#[]⟩], .int .i64 1]) (by simp [results, Tryz.results13, go_sem, e0, e1, e2]) rfl ?_
    exact ⟨rfl, hb9⟩
  | true =>
    obtain ⟨n, hg⟩ := Brd.good hk
    rw [turn_yes hk]
    have HTP := Lib.hid (fun W => transpose_any b n W hg)
    clear hg
    generalize b.turn = res at *
    obtain ⟨rn, rp, rc⟩ := res
    simp only at HTP ⊢
    go_enter Tryz.func13, Tryz.ntmps13
    go_upto_region 1 with fail
    rw [← HW2.out]
    clear HW2
    have b0 := VB.out.cell (i := 0) rfl
    have b1 := VB.out.cell (i := 1) rfl
    have b2 := VB.out.cell (i := 2) rfl
    go_wp2_with fail
    refine (ValidBoard_any b _ hf).mono ?_
    rintro e w3 ⟨rfl, hd⟩
    rw [hk]
    clear hk b0 b1 b2
    replace hb := hb.trans (hd.mono hb.size)
    replace VB := Lib.hid (VB.out.kept hd)
    replace VR := Lib.hid (VR.out.kept hd)
    clear hd
    have b0 := VB.out.cell (i := 0) rfl
    have b1 := VB.out.cell (i := 1) rfl
    have b2 := VB.out.cell (i := 2) rfl
    go_wp2_with fail
    refine (HTP.out _).mono ?_
    rintro e w4 ⟨rfl, hd⟩
    clear b0 b1 b2
    replace hb := hb.trans (hd.mono hb.size)
    replace VR := Lib.hid (VR.out.kept hd)
    clear hd
    have t0 := VR.out.cell (i := 0) rfl
    have t1 := VR.out.cell (i := 1) rfl
    have t2 := VR.out.cell (i := 2) rfl
    have u0 := VR.out.free 0
    have u1 := VR.out.free 1
    have u2 := VR.out.free 2
    obtain ⟨o0, k0⟩ := VR.out.set 0 (.int .i64 rn)
    obtain ⟨o1, k1⟩ := o0.set 1 (.string rp)
    obtain ⟨o2, k2⟩ := o1.set 2 (.string rc)
    have GG := grownBy_trans (grownBy_trans k0 k1) k2
    have hb9 := hb.grown GG hb.size (fun q h => by cases h; omega)
    have e0 := o2.cell (i := 0) (v := .int .i64 rn) rfl
    have e1 := o2.cell (i := 1) (v := .string rp) rfl
    have e2 := o2.cell (i := 2) (v := .string rc) rfl
    clear o0 o1 o2 k0 k1 k2 GG
    go_wp2
    refine bodyPost_ret (v := .tuple #[.agg #[.int .i64 rn, .string rp, .string rc], .int .i64 0]) (by simp [results, Tryz.results13, go_sem, e0, e1, e2]) rfl ?_
    exact ⟨rfl, hb9⟩
set_option maxRecDepth 100000 in
set_option maxHeartbeats 2000000 in
theorem TransposePlay_any (p : Ply) (w : World) :
    Calls Tryz.prog 14 #[.agg #[.int .i64 p.row, .int .i64 p.col, .bool p.down, .string p.word]] w fun e w' => e = .returned (.agg #[.int .i64 p.col, .int .i64 p.row, .bool (!p.down), .string p.word]) ∧ Below w.heap.size w w' := by
  obtain ⟨w2, hw2⟩ : ∃ w2, w2 = (w.alloc (.cells #[.int .i64 p.row, .int .i64 p.col, .bool p.down, .string p.word] 30)).alloc (.cells #[.int .i64 0, .int .i64 0, .bool false, .string ⟨#[]⟩] 30) := ⟨_, rfl⟩
  have hb : Below w.heap.size w w2 := by rw [hw2]; exact ((Below.refl _ _).alloc (Nat.le_refl _) _).alloc (by simp) _
  have VP : Hid (VarAt w2 w.heap.size 30 [.int .i64 p.row, .int .i64 p.col, .bool p.down, .string p.word]) := by
    rw [hw2]
    exact Lib.hid ((VarAt.new w 30 [.int .i64 p.row, .int .i64 p.col, .bool p.down, .string p.word]).kept ((Below.refl _ _).alloc (Nat.le_refl _) _))
  have VR : Hid (VarAt w2 (w.heap.size + 1) 30 [.int .i64 0, .int .i64 0, .bool false, .string ⟨#[]⟩]) := by
    rw [hw2]
    have := VarAt.new (w.alloc (.cells #[.int .i64 p.row, .int .i64 p.col, .bool p.down, .string p.word] 30)) 30 [.int .i64 0, .int .i64 0, .bool false, .string ⟨#[]⟩]
    simp only [World.size_alloc] at this
    exact Lib.hid this
  have HW2 := Lib.hid hw2
  clear hw2
  go_enter Tryz.func14, Tryz.ntmps14
  go_upto_region 1 with fail
  rw [← HW2.out]
  clear HW2
  have c0 := VP.out.cell (i := 0) rfl
  have c1 := VP.out.cell (i := 1) rfl
  have c2 := VP.out.cell (i := 2) rfl
  have c3 := VP.out.cell (i := 3) rfl
  have t0 := VR.out.cell (i := 0) rfl
  have t1 := VR.out.cell (i := 1) rfl
  have t2 := VR.out.cell (i := 2) rfl
  have t3 := VR.out.cell (i := 3) rfl
  have u0 := VR.out.free 0
  have u1 := VR.out.free 1
  have u2 := VR.out.free 2
  have u3 := VR.out.free 3
  obtain ⟨o0, k0⟩ := VR.out.set 0 (.int .i64 p.col)
  obtain ⟨o1, k1⟩ := o0.set 1 (.int .i64 p.row)
  obtain ⟨o2, k2⟩ := o1.set 2 (.bool (!p.down))
  obtain ⟨o3, k3⟩ := o2.set 3 (.string p.word)
  have GG := grownBy_trans (grownBy_trans (grownBy_trans k0 k1) k2) k3
  have hb9 := hb.grown GG hb.size (fun q h => by cases h; omega)
  have e0 := o3.cell (i := 0) (v := .int .i64 p.col) rfl
  have e1 := o3.cell (i := 1) (v := .int .i64 p.row) rfl
  have e2 := o3.cell (i := 2) (v := .bool (!p.down)) rfl
  have e3 := o3.cell (i := 3) (v := .string p.word) rfl
  clear o0 o1 o2 o3 k0 k1 k2 k3 GG
  go_wp2
  refine bodyPost_ret (v := .agg #[.int .i64 p.col, .int .i64 p.row, .bool (!p.down), .string p.word]) (by simp [results, Tryz.results14, go_sem, e0, e1, e2, e3]) rfl ?_
  exact ⟨rfl, hb9⟩
end Go.Proofs.YtjdcdhhbgijaoaaGreatDoor
