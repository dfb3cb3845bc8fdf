/- Contracts: a play made, its new squares and its tiles: the program; a play made: the reference. For whatever board and play. -/
import Derived.Test.YtjdcdhhbgijaoaaGreatDoorPlbC
import Derived.Test.YtjdcdhhbgijaoaaGreatDoorGmM
namespace Go.Proofs.YtjdcdhhbgijaoaaGreatDoor
open Go.ChangeShapes Go.WideShapes Go.ChangeAt Go.RowKit Go.Sort

/-- what comes of a play, and a code -/
def makeOut (b : Brd) (p : Ply) : Brd × Int := if b.okPlay p then (b.made p, 0) else (⟨0, ⟨#[]⟩, ⟨#[]⟩⟩, 1)
theorem make_no {b : Brd} {p : Ply} (h : b.okPlay p = false) : makeOut b p = (⟨0, ⟨#[]⟩, ⟨#[]⟩⟩, 1) := by unfold makeOut; rw [h]; rfl
theorem make_yes {b : Brd} {p : Ply} (h : b.okPlay p = true) : makeOut b p = (b.made p, 0) := by unfold makeOut; rw [h]; rfl
/-- the tiles of a play, and a code -/
def tilesOut (b : Brd) (p : Ply) : ByteArray × Int := if b.okPlay p then (mkB (srtL (b.tiles p)), 0) else (⟨#[]⟩, 1)
theorem tilesOut_no {b : Brd} {p : Ply} (h : b.okPlay p = false) : tilesOut b p = (⟨#[]⟩, 1) := by unfold tilesOut; rw [h]; rfl
theorem tilesOut_yes {b : Brd} {p : Ply} (h : b.okPlay p = true) : tilesOut b p = (mkB (srtL (b.tiles p)), 0) := by unfold tilesOut; rw [h]; rfl
set_option maxRecDepth 100000 in
set_option maxHeartbeats 2000000 in
theorem MakePlay_any (b : Brd) (p : Ply) (w : World) (hf : b.fit) (hs : p.word.size ≤ 1048576) (hE : CEnv w) :
    Calls Tryz.prog 19 #[.agg #[.int .i64 b.size, .string b.premium, .string b.cells], .agg #[.int .i64 p.row, .int .i64 p.col, .bool p.down, .string p.word]] w fun e w' => e = .returned (.tuple #[.agg #[.int .i64 (makeOut b p).1.size, .string (makeOut b p).1.premium, .string (makeOut b p).1.cells], .int .i64 (makeOut b p).2]) ∧ Below w.heap.size w w' := by
  obtain ⟨w2, hw2⟩ : ∃ w2, w2 = ((w.alloc (.cells #[.int .i64 b.size, .string b.premium, .string b.cells] 25)).alloc (.cells #[.int .i64 p.row, .int .i64 p.col, .bool p.down, .string p.word] 30)).alloc (.cells #[.int .i64 0, .string ⟨#[]⟩, .string ⟨#[]⟩] 25) := ⟨_, rfl⟩
  have hb : Below w.heap.size w w2 := by rw [hw2]; exact (((Below.refl _ _).alloc (Nat.le_refl _) _).alloc (by simp) _).alloc (by simp; omega) _
  have VB : Hid (VarAt w2 w.heap.size 25 [.int .i64 b.size, .string b.premium, .string b.cells]) := by
    rw [hw2]
    exact Lib.hid (((VarAt.new w 25 [.int .i64 b.size, .string b.premium, .string b.cells]).kept ((Below.refl _ _).alloc (Nat.le_refl _) _)).kept ((Below.refl _ _).alloc (Nat.le_refl _) _))
  have VP : Hid (VarAt w2 (w.heap.size + 1) 30 [.int .i64 p.row, .int .i64 p.col, .bool p.down, .string p.word]) := by
    rw [hw2]
    have := VarAt.new (w.alloc (.cells #[.int .i64 b.size, .string b.premium, .string b.cells] 25)) 30 [.int .i64 p.row, .int .i64 p.col, .bool p.down, .string p.word]
    simp only [World.size_alloc] at this
    exact Lib.hid (this.kept ((Below.refl _ _).alloc (Nat.le_refl _) _))
  have VR : Hid (VarAt w2 (w.heap.size + 2) 25 [.int .i64 0, .string ⟨#[]⟩, .string ⟨#[]⟩]) := by
    rw [hw2]
    have := VarAt.new ((w.alloc (.cells #[.int .i64 b.size, .string b.premium, .string b.cells] 25)).alloc (.cells #[.int .i64 p.row, .int .i64 p.col, .bool p.down, .string p.word] 30)) 25 [.int .i64 0, .string ⟨#[]⟩, .string ⟨#[]⟩]
    simp only [World.size_alloc] at this
    exact Lib.hid this
  have HW2 := Lib.hid hw2
  have HE := Lib.hid (hE.kept hb)
  clear hw2 hE
  cases hk : b.okPlay p with
  | false =>
    rw [make_no hk]
    go_enter Tryz.func19, Tryz.ntmps19
    go_upto_region 1 with fail
    rw [← HW2.out]
    clear HW2
    have b0 := VB.out.cell (i := 0) rfl
    have b1 := VB.out.cell (i := 1) rfl
    have b2 := VB.out.cell (i := 2) rfl
    have c0 := VP.out.cell (i := 0) rfl
    have c1 := VP.out.cell (i := 1) rfl
    have c2 := VP.out.cell (i := 2) rfl
    have c3 := VP.out.cell (i := 3) rfl
    go_wp2_with fail
    refine (ValidPlay_any b p _ hf hs HE.out).mono ?_
    rintro e w3 ⟨rfl, hd⟩
    rw [hk]
    clear hk b0 b1 b2 c0 c1 c2 c3
    replace hb := hb.trans (hd.mono hb.size)
    replace VR := Lib.hid (VR.out.kept hd)
    clear hd
    have t0 := VR.out.cell (i := 0) rfl
    have t1 := VR.out.cell (i := 1) rfl
    have t2 := VR.out.cell (i := 2) rfl
    have u0 := VR.out.free 0
    have u1 := VR.out.free 1
    have u2 := VR.out.free 2
    obtain ⟨o0, k0⟩ := VR.out.set 0 (.int .i64 0)
    obtain ⟨o1, k1⟩ := o0.set 1 (.string ⟨#[]⟩)
    obtain ⟨o2, k2⟩ := o1.set 2 (.string ⟨#[]⟩)
    have GG := grownBy_trans (grownBy_trans k0 k1) k2
    have hb9 := hb.grown GG hb.size (fun q h => by cases h; omega)
    have e0 := o2.cell (i := 0) (v := .int .i64 0) rfl
    have e1 := o2.cell (i := 1) (v := .string ⟨#[]⟩) rfl
    have e2 := o2.cell (i := 2) (v := .string ⟨#[]⟩) rfl
    clear o0 o1 o2 k0 k1 k2 GG
    go_wp2
    refine bodyPost_ret (v := .tuple #[.agg #[.int .i64 0, .string ⟨#[]⟩, .string ⟨#[]⟩], .int .i64 1]) (by simp [results, Tryz.results19, go_sem, e0, e1, e2]) rfl ?_
    exact ⟨rfl, hb9⟩
  | true =>
    obtain ⟨n, hpg⟩ := okPlay_good hk
    rw [make_yes hk]
    have HMD := Lib.hid (fun W => made_any b p n W hpg)
    clear hpg
    generalize b.made p = res at *
    obtain ⟨rn, rp, rc⟩ := res
    simp only at HMD ⊢
    go_enter Tryz.func19, Tryz.ntmps19
    go_upto_region 1 with fail
    rw [← HW2.out]
    clear HW2
    have b0 := VB.out.cell (i := 0) rfl
    have b1 := VB.out.cell (i := 1) rfl
    have b2 := VB.out.cell (i := 2) rfl
    have c0 := VP.out.cell (i := 0) rfl
    have c1 := VP.out.cell (i := 1) rfl
    have c2 := VP.out.cell (i := 2) rfl
    have c3 := VP.out.cell (i := 3) rfl
    go_wp2_with fail
    refine (ValidPlay_any b p _ hf hs HE.out).mono ?_
    rintro e w3 ⟨rfl, hd⟩
    rw [hk]
    clear hk b0 b1 b2 c0 c1 c2 c3
    replace hb := hb.trans (hd.mono hb.size)
    replace VB := Lib.hid (VB.out.kept hd)
    replace VP := Lib.hid (VP.out.kept hd)
    replace VR := Lib.hid (VR.out.kept hd)
    clear hd
    have b0 := VB.out.cell (i := 0) rfl
    have b1 := VB.out.cell (i := 1) rfl
    have b2 := VB.out.cell (i := 2) rfl
    have c0 := VP.out.cell (i := 0) rfl
    have c1 := VP.out.cell (i := 1) rfl
    have c2 := VP.out.cell (i := 2) rfl
    have c3 := VP.out.cell (i := 3) rfl
    go_wp2_with fail
    refine (HMD.out _).mono ?_
    rintro e w4 ⟨rfl, hd⟩
    clear b0 b1 b2 c0 c1 c2 c3
    replace hb := hb.trans (hd.mono hb.size)
    replace VR := Lib.hid (VR.out.kept hd)
    clear hd
    have t0 := VR.out.cell (i := 0) rfl
    have t1 := VR.out.cell (i := 1) rfl
    have t2 := VR.out.cell (i := 2) rfl
    have u0 := VR.out.free 0
    have u1 := VR.out.free 1
    have u2 := VR.out.free 2
    obtain ⟨o0, k0⟩ := VR.out.set 0 (.int .i64 rn)
    obtain ⟨o1, k1⟩ := o0.set 1 (.string rp)
    obtain ⟨o2, k2⟩ := o1.set 2 (.string rc)
    have GG := grownBy_trans (grownBy_trans k0 k1) k2
    have hb9 := hb.grown GG hb.size (fun q h => by cases h; omega)
    have e0 := o2.cell (i := 0) (v := .int .i64 rn) rfl
    have e1 := o2.cell (i := 1) (v := .string rp) rfl
    have e2 := o2.cell (i := 2) (v := .string rc) rfl
    clear o0 o1 o2 k0 k1 k2 GG
    go_wp2
    refine bodyPost_ret (v := .tuple #[.agg #[.int .i64 rn, .string rp, .string rc], .int .i64 0]) (by simp [results, Tryz.results19, go_sem, e0, e1, e2]) rfl ?_
    exact ⟨rfl, hb9⟩
set_option maxRecDepth 100000 in
set_option maxHeartbeats 2000000 in
theorem PlacedTiles_any (b : Brd) (p : Ply) (w : World) (hf : b.fit) (hs : p.word.size ≤ 1048576) (hE : CEnv w) :
    Calls Tryz.prog 40 #[.agg #[.int .i64 b.size, .string b.premium, .string b.cells], .agg #[.int .i64 p.row, .int .i64 p.col, .bool p.down, .string p.word]] w fun e w' => e = .returned (.tuple #[.string (tilesOut b p).1, .int .i64 (tilesOut b p).2]) ∧ Below w.heap.size w w' := by
  obtain ⟨w2, hw2⟩ : ∃ w2, w2 = (w.alloc (.cells #[.int .i64 b.size, .string b.premium, .string b.cells] 25)).alloc (.cells #[.int .i64 p.row, .int .i64 p.col, .bool p.down, .string p.word] 30) := ⟨_, rfl⟩
  have hb : Below w.heap.size w w2 := by rw [hw2]; exact ((Below.refl _ _).alloc (Nat.le_refl _) _).alloc (by simp) _
  have VB : Hid (VarAt w2 w.heap.size 25 [.int .i64 b.size, .string b.premium, .string b.cells]) := by
    rw [hw2]
    exact Lib.hid ((VarAt.new w 25 [.int .i64 b.size, .string b.premium, .string b.cells]).kept ((Below.refl _ _).alloc (Nat.le_refl _) _))
  have VP : Hid (VarAt w2 (w.heap.size + 1) 30 [.int .i64 p.row, .int .i64 p.col, .bool p.down, .string p.word]) := by
    rw [hw2]
    have := VarAt.new (w.alloc (.cells #[.int .i64 b.size, .string b.premium, .string b.cells] 25)) 30 [.int .i64 p.row, .int .i64 p.col, .bool p.down, .string p.word]
    simp only [World.size_alloc] at this
    exact Lib.hid this
  have HW2 := Lib.hid hw2
  have HE := Lib.hid (hE.kept hb)
  clear hw2 hE
  cases hk : b.okPlay p with
  | false =>
    rw [tilesOut_no hk]
    go_enter Tryz.func40, Tryz.ntmps40
    go_upto_region 1 with fail
    rw [← HW2.out]
    clear HW2
    have b0 := VB.out.cell (i := 0) rfl
    have b1 := VB.out.cell (i := 1) rfl
    have b2 := VB.out.cell (i := 2) rfl
    have c0 := VP.out.cell (i := 0) rfl
    have c1 := VP.out.cell (i := 1) rfl
    have c2 := VP.out.cell (i := 2) rfl
    have c3 := VP.out.cell (i := 3) rfl
    go_wp2_with fail
    refine (ValidPlay_any b p _ hf hs HE.out).mono ?_
    rintro e w3 ⟨rfl, hd⟩
    rw [hk]
    clear hk b0 b1 b2 c0 c1 c2 c3
    replace hb := hb.trans (hd.mono hb.size)
    replace VP := Lib.hid (VP.out.kept hd)
    clear hd
    go_wp2
    go_ret2
    exact ⟨rfl, hb⟩
  | true =>
    obtain ⟨n, hpg⟩ := okPlay_good hk
    rw [tilesOut_yes hk]
    have HMD := Lib.hid (fun W => placedTiles_any b p n W hpg)
    clear hpg
    go_enter Tryz.func40, Tryz.ntmps40
    go_upto_region 1 with fail
    rw [← HW2.out]
    clear HW2
    have b0 := VB.out.cell (i := 0) rfl
    have b1 := VB.out.cell (i := 1) rfl
    have b2 := VB.out.cell (i := 2) rfl
    have c0 := VP.out.cell (i := 0) rfl
    have c1 := VP.out.cell (i := 1) rfl
    have c2 := VP.out.cell (i := 2) rfl
    have c3 := VP.out.cell (i := 3) rfl
    go_wp2_with fail
    refine (ValidPlay_any b p _ hf hs HE.out).mono ?_
    rintro e w3 ⟨rfl, hd⟩
    rw [hk]
    clear hk b0 b1 b2 c0 c1 c2 c3
    replace hb := hb.trans (hd.mono hb.size)
    replace VB := Lib.hid (VB.out.kept hd)
    replace VP := Lib.hid (VP.out.kept hd)
    clear hd
    have b0 := VB.out.cell (i := 0) rfl
    have b1 := VB.out.cell (i := 1) rfl
    have b2 := VB.out.cell (i := 2) rfl
    have c0 := VP.out.cell (i := 0) rfl
    have c1 := VP.out.cell (i := 1) rfl
    have c2 := VP.out.cell (i := 2) rfl
    have c3 := VP.out.cell (i := 3) rfl
    go_wp2_with fail
    refine (HMD.out _).mono ?_
    rintro e w4 ⟨rfl, hd⟩
    clear b0 b1 b2 c0 c1 c2 c3
    replace hb := hb.trans (hd.mono hb.size)
    replace VP := Lib.hid (VP.out.kept hd)
    clear hd
    go_wp2
    go_ret2
    exact ⟨rfl, hb⟩
end Go.Proofs.YtjdcdhhbgijaoaaGreatDoor
