/- Contracts: what is on a square, the tiles on a board, two piles together: the program. For · Contracts: the law's own comparisons of lists: words and squares that are alike. For lists · Contract: a play's tiles: the reference. For whatever board and play. -/
import Derived.Test.YtjdcdhhbgijaoaaGreatDoorFpP
import Derived.Test.YtjdcdhhbgijaoaaGreatDoorJnD
import Derived.Test.YtjdcdhhbgijaoaaGreatDoorLgD
import Derived.Test.YtjdcdhhbgijaoaaGreatDoorBrI
import Derived.Test.YtjdcdhhbgijaoaaGreatDoorFpI
import Derived.Laws.StructEq
import Derived.ChangeKeysEq
import Derived.Test.YtjdcdhhbgijaoaaGreatDoorLgF
namespace Go.Proofs.YtjdcdhhbgijaoaaGreatDoor
open Go.ChangeShapes Go.WideShapes Go.ChangeAt Go.RowKit Go.Sort

/-- what is on a square of a board; 0 if there is none -/
def atOut (b : Brd) (r c : Int) : UInt8 := if b.ok then b.cell r c else 0
theorem at_yes {b : Brd} (h : b.ok = true) (r c : Int) : atOut b r c = b.cell r c := by unfold atOut; rw [h]; rfl
/-- the tiles on a board, and a code -/
def onOut (b : Brd) : ByteArray × Int := if b.ok then (if 120 < b.many then (⟨#[]⟩, 5) else (mkB b.pile, 0)) else (⟨#[]⟩, 1)
theorem on_many {b : Brd} (h : b.ok = true) (h2 : 120 < b.many) : onOut b = (⟨#[]⟩, 5) := by unfold onOut; rw [h, if_pos h2]; rfl
theorem on_yes {b : Brd} (h : b.ok = true) (h2 : ¬ 120 < b.many) : onOut b = (mkB b.pile, 0) := by unfold onOut; rw [h, if_neg h2]; rfl
/-- two piles together, and a code -/
def addOut (a c : ByteArray) : ByteArray × Int := if pileOk a.data.toList = false ∨ pileOk c.data.toList = false then (⟨#[]⟩, 1) else if 120 < a.size + c.size then (⟨#[]⟩, 5) else (mkB (srtL (a ++ c).data.toList), 0)
theorem add_many {a c : ByteArray} (h : pileOk a.data.toList = true) (h1 : pileOk c.data.toList = true) (h2 : 120 < a.size + c.size) : addOut a c = (⟨#[]⟩, 5) := by unfold addOut; rw [if_neg (by rw [h, h1]; simp), if_pos h2]
theorem add_yes {a c : ByteArray} (h : pileOk a.data.toList = true) (h1 : pileOk c.data.toList = true) (h2 : ¬ 120 < a.size + c.size) : addOut a c = (mkB (srtL (a ++ c).data.toList), 0) := by unfold addOut; rw [if_neg (by rw [h, h1]; simp), if_neg h2]
theorem cat_list (a c : ByteArray) : (a ++ c).data.toList = a.data.toList ++ c.data.toList := by simp
end Go.Proofs.YtjdcdhhbgijaoaaGreatDoor
namespace Go.Proofs.YtjdcdhhbgijaoaaGreatDoor
open Go.ChangeShapes Go.WideShapes Go.ChangeAt Go.RowKit Go.Sort

theorem f6big_ct (ca : Option Addr) (n cap : Nat) (w : World) : Calls Tryz.prog 9 #[.slice ca n cap] w fun e w' => e = .returned (.bool (decide ((4096 : Int) < n))) ∧ w = w' := by
  go_enter Tryz.func9, Tryz.ntmps9
  go_wp2
  go_ret
  exact ⟨rfl, rfl⟩
def hasB (l : List ByteArray) (s : ByteArray) : Bool := l.any fun x => x.toList == s.toList
end Go.Proofs.YtjdcdhhbgijaoaaGreatDoor
namespace Go.Proofs.YtjdcdhhbgijaoaaGreatDoor
open Go.ChangeShapes Go.WideShapes Go.ChangeAt Go.RowKit Go.Sort

set_option maxRecDepth 100000 in
set_option maxHeartbeats 2000000 in
theorem specPlacedTiles_any (b : Brd) (p : Ply) (w : World) (hf : b.fit) (hs : p.fit) :
    Calls Tryz.prog 45 #[.agg #[.int .i64 b.size, .string b.premium, .string b.cells], .agg #[.int .i64 p.row, .int .i64 p.col, .bool p.down, .string p.word]] w fun e w' => e = .returned (.tuple #[.string (tilesOut b p).1, .int .i64 (tilesOut b p).2]) ∧ Below w.heap.size w w' := by
  obtain ⟨w2, hw2⟩ : ∃ w2, w2 = (w.alloc (.cells #[.int .i64 b.size, .string b.premium, .string b.cells] 25)).alloc (.cells #[.int .i64 p.row, .int .i64 p.col, .bool p.down, .string p.word] 30) := ⟨_, rfl⟩
  have hb : Below w.heap.size w w2 := by rw [hw2]; exact ((Below.refl _ _).alloc (Nat.le_refl _) _).alloc (by simp) _
  have VB : Hid (VarAt w2 w.heap.size 25 [.int .i64 b.size, .string b.premium, .string b.cells]) := by
    rw [hw2]
    exact Lib.hid ((VarAt.new w 25 [.int .i64 b.size, .string b.premium, .string b.cells]).kept ((Below.refl _ _).alloc (Nat.le_refl _) _))
  have VP : Hid (VarAt w2 (w.heap.size + 1) 30 [.int .i64 p.row, .int .i64 p.col, .bool p.down, .string p.word]) := by
    rw [hw2]
    have := VarAt.new (w.alloc (.cells #[.int .i64 b.size, .string b.premium, .string b.cells] 25)) 30 [.int .i64 p.row, .int .i64 p.col, .bool p.down, .string p.word]
    simp only [World.size_alloc] at this
    exact Lib.hid this
  have HG : Hid (BAt w2 w.heap.size 0 b) := Lib.hid ⟨VB.out.cell (i := 0) rfl, VB.out.cell (i := 1) rfl, VB.out.cell (i := 2) rfl⟩
  have HW2 := Lib.hid hw2
  clear hw2 VB
  cases hk : b.okPlay p with
  | false =>
    rw [tilesOut_no hk]
    go_enter Tryz.func45, Tryz.ntmps45
    go_upto_region 1 with fail
    rw [← HW2.out]
    clear HW2
    have c0 := VP.out.cell (i := 0) rfl
    have c1 := VP.out.cell (i := 1) rfl
    have c2 := VP.out.cell (i := 2) rfl
    have c3 := VP.out.cell (i := 3) rfl
    go_wp2_with fail
    refine (l12Ok_any b p w.heap.size 0 _ HG.out hf hs).mono ?_
    rintro e w3 ⟨rfl, hd⟩
    rw [hk]
    clear hk c0 c1 c2 c3
    replace hb := hb.trans (hd.mono hb.size)
    replace VP := Lib.hid (VP.out.kept hd)
    clear hd
    go_wp2
    go_ret2
    exact ⟨rfl, hb⟩
  | true =>
    obtain ⟨n, hp⟩ := okPlay_good hk
    rw [tilesOut_yes hk]
    have hs12 := hp.twelve
    have hfl : (b.fresh p).length ≤ p.word.size := freshL_len _ _ _ _
    have HFL : Hid (∀ W, BAt W w.heap.size 0 b → Calls Tryz.prog 91 #[.pointer (some ⟨w.heap.size, 0, none⟩), .agg #[.int .i64 p.row, .int .i64 p.col, .bool p.down, .string p.word]] W fun e w' => e = .returned (flatV b p) ∧ Below W.heap.size W w') := Lib.hid (fun W h => l12Flat_any b p n w.heap.size 0 W hp.good h)
    have HPL : Hid (∀ x W, BAt W x 0 (b.flat p.down) → Calls Tryz.prog 123 #[.pointer (some ⟨x, 0, none⟩), .agg #[.int .i64 p.flat.row, .int .i64 p.flat.col, .bool p.flat.down, .string p.word]] W (StrPost W (placedB p.word (b.fresh p)))) := Lib.hid (fun x W h => by
      refine l12Placed_of (b.flat p.down) p.flat.row p.flat.col p.flat.down p.word (b.fresh p) x W h (Lib.hid (fun W2 h2 => ?_)) (fun i hi => (freshL_lt hi).1) (by omega)
      have := l12Fresh_any (b.flat p.down) n p.flat.row p.flat.col p.flat.down p.word x 0 W2 (hp.good.flat p.down) h2 hp.twelve (by rw [Ply.flat_row]; exact hp.r0) (by rw [Ply.flat_row]; exact hp.r1) (by rw [Ply.flat_col]; exact hp.c0) (by rw [Ply.flat_col]; exact hp.c1)
      rw [Ply.flat_row, Ply.flat_col] at this ⊢
      exact this)
    have HTI : Hid (∀ W, Calls Tryz.prog 122 #[.string (mkB (placedB p.word (b.fresh p)))] W fun e w' => e = .returned (.string (mkB (srtL (b.tiles p)))) ∧ Below W.heap.size W w') := Lib.hid (fun W => by
      have := l03Tiles_any (mkB (placedB p.word (b.fresh p))) W (by rw [mkB_size, placedB_len]; omega)
      rw [mkB_data] at this
      refine this.mono ?_
      rintro e w' ⟨R, h1, h2, h3, h4⟩
      have h5 : R = srtL (b.tiles p) := srt_eq (List.all_eq_true.2 hp.tiles_ok) h2 h3
      rw [← h5]
      exact ⟨h1, h4⟩)
    clear hp hfl hs12
    generalize placedB p.word (b.fresh p) = pb at *
    generalize mkB (srtL (b.tiles p)) = tl at *
    go_enter Tryz.func45, Tryz.ntmps45
    go_upto_region 1 with fail
    rw [← HW2.out]
    clear HW2
    have c0 := VP.out.cell (i := 0) rfl
    have c1 := VP.out.cell (i := 1) rfl
    have c2 := VP.out.cell (i := 2) rfl
    have c3 := VP.out.cell (i := 3) rfl
    go_wp2_with fail
    refine (l12Ok_any b p w.heap.size 0 _ HG.out hf hs).mono ?_
    rintro e w3 ⟨rfl, hd⟩
    rw [hk]
    clear hk c0 c1 c2 c3
    replace hb := hb.trans (hd.mono hb.size)
    replace VP := Lib.hid (VP.out.kept hd)
    replace HG := Lib.hid (HG.out.kept hd)
    clear hd
    have c0 := VP.out.cell (i := 0) rfl
    have c1 := VP.out.cell (i := 1) rfl
    have c2 := VP.out.cell (i := 2) rfl
    have c3 := VP.out.cell (i := 3) rfl
    go_wp2_with fail
    refine (HFL.out _ HG.out).mono ?_
    rintro e w4 ⟨rfl, hd⟩
    unfold flatV
    clear c0 c1 c2 c3
    replace hb := hb.trans (hd.mono hb.size)
    replace VP := Lib.hid (VP.out.kept hd)
    replace HG := Lib.hid (HG.out.kept hd)
    clear hd
    generalize b.flat p.down = f at *
    generalize p.flat.row = fr0 at *
    generalize p.flat.col = fc at *
    generalize p.flat.down = fd at *
    have HF : Hid (BAt ((w4.alloc (.cells #[.int .i64 f.size, .string f.premium, .string f.cells] 25)).alloc (.cells #[.int .i64 fr0, .int .i64 fc, .bool fd, .string p.word] 30)) w4.heap.size 0 f) := Lib.hid ((BAt.new w4 f 25).kept ((Below.refl _ _).alloc (Nat.le_refl _) _))
    have HQ : Hid (VarAt ((w4.alloc (.cells #[.int .i64 f.size, .string f.premium, .string f.cells] 25)).alloc (.cells #[.int .i64 fr0, .int .i64 fc, .bool fd, .string p.word] 30)) (w4.heap.size + 1) 30 [.int .i64 fr0, .int .i64 fc, .bool fd, .string p.word]) := Lib.hid (by
      have := VarAt.new (w4.alloc (.cells #[.int .i64 f.size, .string f.premium, .string f.cells] 25)) 30 [.int .i64 fr0, .int .i64 fc, .bool fd, .string p.word]
      simp only [World.size_alloc] at this
      exact this)
    have hd : Below w4.heap.size w4 ((w4.alloc (.cells #[.int .i64 f.size, .string f.premium, .string f.cells] 25)).alloc (.cells #[.int .i64 fr0, .int .i64 fc, .bool fd, .string p.word] 30)) := ((Below.refl _ _).alloc (Nat.le_refl _) _).alloc (by simp) _
    replace hb := hb.trans (hd.mono hb.size)
    replace VP := Lib.hid (VP.out.kept hd)
    replace HG := Lib.hid (HG.out.kept hd)
    clear hd
    go_upto_region 4 with fail
    generalize (w4.alloc (.cells #[.int .i64 f.size, .string f.premium, .string f.cells] 25)).alloc (.cells #[.int .i64 fr0, .int .i64 fc, .bool fd, .string p.word] 30) = w5 at *
    have q0 := HQ.out.cell (i := 0) rfl
    have q1 := HQ.out.cell (i := 1) rfl
    have q2 := HQ.out.cell (i := 2) rfl
    have q3 := HQ.out.cell (i := 3) rfl
    go_wp2_with fail
    refine (HPL.out _ _ HF.out).mono ?_
    rintro e w6 ⟨rfl, hd⟩
    clear q0 q1 q2 q3 HF HQ
    replace hb := hb.trans (hd.mono hb.size)
    replace VP := Lib.hid (VP.out.kept hd)
    clear hd
    go_wp2_with fail
    refine (HTI.out _).mono ?_
    rintro e w7 ⟨rfl, hd⟩
    replace hb := hb.trans (hd.mono hb.size)
    replace VP := Lib.hid (VP.out.kept hd)
    clear hd
    go_wp2
    go_ret2
    exact ⟨rfl, hb⟩
end Go.Proofs.YtjdcdhhbgijaoaaGreatDoor
