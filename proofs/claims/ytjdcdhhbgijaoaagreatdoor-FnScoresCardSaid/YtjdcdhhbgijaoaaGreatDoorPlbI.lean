/- Contract: the program's WordsFormed. Go's tables of unicode and unicode/utf8 hold what is laid (CEnv). -/
import Derived.Test.YtjdcdhhbgijaoaaGreatDoorPlbH
namespace Go.Proofs.YtjdcdhhbgijaoaaGreatDoor
open Go.ChangeShapes Go.WideShapes Go.ChangeAt Go.RowKit Go.Sort

set_option maxRecDepth 100000 in
set_option maxHeartbeats 2000000 in
theorem WordsFormed_any (b : Brd) (p : Ply) (w : World) (hf : b.fit) (hs : p.word.size ≤ 1048576) (hE : CEnv w) :
    Calls Tryz.prog 18 #[.agg #[.int .i64 b.size, .string b.premium, .string b.cells], .agg #[.int .i64 p.row, .int .i64 p.col, .bool p.down, .string p.word]] w (WordsPost b p w) := by
  obtain ⟨w2, hw2⟩ : ∃ w2, w2 = (w.alloc (.cells #[.int .i64 b.size, .string b.premium, .string b.cells] 25)).alloc (.cells #[.int .i64 p.row, .int .i64 p.col, .bool p.down, .string p.word] 30) := ⟨_, rfl⟩
  have hb : Below w.heap.size w w2 := by rw [hw2]; exact ((Below.refl _ _).alloc (Nat.le_refl _) _).alloc (by simp) _
  have VB : Hid (VarAt w2 w.heap.size 25 [.int .i64 b.size, .string b.premium, .string b.cells]) := by
    rw [hw2]
    exact Lib.hid ((VarAt.new w 25 [.int .i64 b.size, .string b.premium, .string b.cells]).kept ((Below.refl _ _).alloc (Nat.le_refl _) _))
  have VP : Hid (VarAt w2 (w.heap.size + 1) 30 [.int .i64 p.row, .int .i64 p.col, .bool p.down, .string p.word]) := by
    rw [hw2]
    have := VarAt.new (w.alloc (.cells #[.int .i64 b.size, .string b.premium, .string b.cells] 25)) 30 [.int .i64 p.row, .int .i64 p.col, .bool p.down, .string p.word]
    simp only [World.size_alloc] at this
    exact Lib.hid this
  have HE := Lib.hid (hE.kept hb)
  have HW2 := Lib.hid hw2
  clear hw2 hE
  cases hk : b.okPlay p with
  | false =>
    refine Calls.mono (R := fun e w' => e = .returned (.tuple #[.slice none 0 0, .int .i64 1]) ∧ Below w.heap.size w w') ?_ (words_no hk)
    go_enter Tryz.func18, Tryz.ntmps18
    go_upto_region 1 with fail
    rw [← HW2.out]
    clear HW2
    have b0 := VB.out.cell (i := 0) rfl
    have b1 := VB.out.cell (i := 1) rfl
    have b2 := VB.out.cell (i := 2) rfl
    have c0 := VP.out.cell (i := 0) rfl
    have c1 := VP.out.cell (i := 1) rfl
    have c2 := VP.out.cell (i := 2) rfl
    have c3 := VP.out.cell (i := 3) rfl
    go_wp2_with fail
    refine (ValidPlay_any b p _ hf hs HE.out).mono ?_
    rintro e w3 ⟨rfl, hd⟩
    rw [hk]
    have hb2 := hb.trans (hd.mono hb.size)
    clear hd hk
    go_wp2
    go_ret2
    exact ⟨rfl, hb2⟩
  | true =>
    obtain ⟨n, hpg⟩ := okPlay_good hk
    have HWF : Hid (∀ W, Calls Tryz.prog 83 #[.agg #[.int .i64 b.size, .string b.premium, .string b.cells], .agg #[.int .i64 p.row, .int .i64 p.col, .bool p.down, .string p.word]] W (TextsPost W (b.words p))) := Lib.hid (fun W => wordsFormed_any b p n W hpg)
    clear hpg
    refine Calls.mono (R := fun e w' => ∃ g cap, e = .returned (.tuple #[.slice (some ⟨g, 0, none⟩) (b.words p).length cap, .int .i64 0]) ∧ w'.ownsRow w.heap.size 9 1 (.slice (some ⟨g, 0, none⟩) (b.words p).length cap) (b.words p).length ((b.words p).flatMap Tx.enc) ∧ Below w.heap.size w w') ?_ (words_yes hk)
    go_enter Tryz.func18, Tryz.ntmps18
    go_upto_region 1 with fail
    rw [← HW2.out]
    clear HW2
    have b0 := VB.out.cell (i := 0) rfl
    have b1 := VB.out.cell (i := 1) rfl
    have b2 := VB.out.cell (i := 2) rfl
    have c0 := VP.out.cell (i := 0) rfl
    have c1 := VP.out.cell (i := 1) rfl
    have c2 := VP.out.cell (i := 2) rfl
    have c3 := VP.out.cell (i := 3) rfl
    go_wp2_with fail
    refine (ValidPlay_any b p _ hf hs HE.out).mono ?_
    rintro e w3 ⟨rfl, hd⟩
    rw [hk]
    clear hk
    replace hb := hb.trans (hd.mono hb.size)
    replace b0 := cell_kept b0 hd
    replace b1 := cell_kept b1 hd
    replace b2 := cell_kept b2 hd
    replace c0 := cell_kept c0 hd
    replace c1 := cell_kept c1 hd
    replace c2 := cell_kept c2 hd
    replace c3 := cell_kept c3 hd
    replace VB := Lib.hid (VB.out.kept hd)
    replace VP := Lib.hid (VP.out.kept hd)
    clear hd
    have b0 := VB.out.cell (i := 0) rfl
    have b1 := VB.out.cell (i := 1) rfl
    have b2 := VB.out.cell (i := 2) rfl
    have c0 := VP.out.cell (i := 0) rfl
    have c1 := VP.out.cell (i := 1) rfl
    have c2 := VP.out.cell (i := 2) rfl
    have c3 := VP.out.cell (i := 3) rfl
    go_wp2_with fail
    refine (HWF.out _).mono ?_
    rintro e w4 ⟨g, cap, rfl, hx, hd⟩
    have HX := Lib.hid (own_mono hx hb.size)
    have hb2 := hb.trans (hd.mono hb.size)
    clear b0 b1 b2 c0 c1 c2 c3 hd hx hb VB VP
    go_wp2
    go_ret2
    exact ⟨g, cap, rfl, HX.out, hb2⟩
end Go.Proofs.YtjdcdhhbgijaoaaGreatDoor
