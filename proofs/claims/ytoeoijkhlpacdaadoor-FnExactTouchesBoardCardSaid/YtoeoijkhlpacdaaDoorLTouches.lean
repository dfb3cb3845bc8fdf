/- The statement FnExactTouchesBoard: whether a play touches what is on the board. Go's tables of unicode and unicode/utf8 hold what is laid (CEnv), internal/bytealg's MaxLen a number (EnvL). -/
import Derived.Test.YtoeoijkhlpacdaaDoorToB
import Derived.Test.YtoeoijkhlpacdaaDoorTBoard
import Derived.Test.YtoeoijkhlpacdaaDoorTPlay
import Derived.Test.YtoeoijkhlpacdaaDoorCEnv
namespace Go.Proofs.YtoeoijkhlpacdaaDoor
open Go.ChangeShapes Go.WideShapes Go.ChangeAt Go.RowKit Go.Sort

set_option maxRecDepth 100000 in
set_option maxHeartbeats 8000000 in
theorem lawTouchesBoard_any (b : Brd) (p : Ply) (w : World) (hf : b.fit) (hpf : p.fit) (hE : CEnv w) (hEL : EnvL w) :
    Calls Tryd.prog 5 #[.agg #[.int .i64 b.size, .string b.premium, .string b.cells], .agg #[.int .i64 p.row, .int .i64 p.col, .bool p.down, .string p.word]] w fun e w' => e = .returned (.bool true) ∧ Below w.heap.size w w' := by
  obtain ⟨w2, hw2⟩ : ∃ w2, w2 = (w.alloc (.cells #[.int .i64 b.size, .string b.premium, .string b.cells] 23)).alloc (.cells #[.int .i64 p.row, .int .i64 p.col, .bool p.down, .string p.word] 34) := ⟨_, rfl⟩
  have hb : Below w.heap.size w w2 := by rw [hw2]; exact ((Below.refl _ _).alloc (Nat.le_refl _) _).alloc (by simp) _
  have VB : Hid (VarAt w2 w.heap.size 23 [.int .i64 b.size, .string b.premium, .string b.cells]) := by
    rw [hw2]
    exact Lib.hid ((VarAt.new w 23 [.int .i64 b.size, .string b.premium, .string b.cells]).kept ((Below.refl _ _).alloc (Nat.le_refl _) _))
  have VP : Hid (VarAt w2 (w.heap.size + 1) 34 [.int .i64 p.row, .int .i64 p.col, .bool p.down, .string p.word]) := by
    rw [hw2]
    have := VarAt.new (w.alloc (.cells #[.int .i64 b.size, .string b.premium, .string b.cells] 23)) 34 [.int .i64 p.row, .int .i64 p.col, .bool p.down, .string p.word]
    simp only [World.size_alloc] at this
    exact Lib.hid this
  have HSP : Hid (∀ W, Calls Tryd.prog 18 #[.agg #[.int .i64 b.size, .string b.premium, .string b.cells], .agg #[.int .i64 p.row, .int .i64 p.col, .bool p.down, .string p.word]] W fun e w' => e = .returned (.bool (b.touchPlay p)) ∧ Below W.heap.size W w') := Lib.hid (fun W => specTouchesBoard_any b p W hf hpf)
  have HIM : Hid (p.word.size ≤ 1048576 → ∀ W, CEnv W → EnvL W → Calls Tryd.prog 19 #[.agg #[.int .i64 b.size, .string b.premium, .string b.cells], .agg #[.int .i64 p.row, .int .i64 p.col, .bool p.down, .string p.word]] W fun e w' => e = .returned (.bool (b.touchPlay p)) ∧ Below W.heap.size W w') := Lib.hid (fun hs W he hl => TouchesBoard_any b p W hf hs he hl)
  have HL := Lib.hid (hEL.kept hb)
  have HE := Lib.hid (hE.kept hb)
  have HW2 := Lib.hid hw2
  clear hw2 hE hEL
  generalize b.touchPlay p = ans at *
  go_enter Tryd.func5, Tryd.ntmps5
  go_upto_region 2 with fail
  rw [← HW2.out]
  clear HW2
  have b0 := VB.out.cell (i := 0) rfl
  have b1 := VB.out.cell (i := 1) rfl
  have b2 := VB.out.cell (i := 2) rfl
  go_wp2_with fail
  refine (szBoard_any b 1048576 _ (by omega) (by omega) hf).mono ?_
  rintro e w3 ⟨l1, rfl, z1, hd⟩
  replace hb := hb.trans (hd.mono hb.size)
  replace b0 := cell_kept b0 hd
  replace b1 := cell_kept b1 hd
  replace b2 := cell_kept b2 hd
  replace VB := Lib.hid (VB.out.kept hd)
  replace VP := Lib.hid (VP.out.kept hd)
  replace HE := Lib.hid (HE.out.kept hd)
  replace HL := Lib.hid (HL.out.kept hd)
  clear hd
  clear b0 b1 b2
  rcases z1 with rfl | ⟨y1, z1⟩
  · go_wp2
    go_ret
    exact ⟨rfl, hb⟩
  have n1 : ¬ l1 < 0 := by omega
  have p0 := VP.out.cell (i := 0) rfl
  have p1 := VP.out.cell (i := 1) rfl
  have p2 := VP.out.cell (i := 2) rfl
  have p3 := VP.out.cell (i := 3) rfl
  go_wp2_with fail
  refine (szPlay_any p l1 _ (by omega) (by omega) hpf).mono ?_
  rintro e w4 ⟨l2, rfl, z2, hd⟩
  clear p0 p1 p2 p3
  replace hb := hb.trans (hd.mono hb.size)
  replace VB := Lib.hid (VB.out.kept hd)
  replace VP := Lib.hid (VP.out.kept hd)
  replace HE := Lib.hid (HE.out.kept hd)
  replace HL := Lib.hid (HL.out.kept hd)
  clear hd
  rcases z2 with rfl | ⟨y2, z2⟩
  · go_wp2
    go_ret
    exact ⟨rfl, hb⟩
  have n2 : ¬ l2 < 0 := by omega
  have hps : p.word.size ≤ 1048576 := by unfold Ply.sz at z2; omega
  replace HIM := Lib.hid (HIM.out hps)
  clear z1 z2 y1 y2 hps hf hpf
  go_upto_region 8 with fail
  have hd : Below w4.heap.size w4 w4.drew := (Below.refl _ _).drew
  replace hb := hb.trans (hd.mono hb.size)
  replace VB := Lib.hid (VB.out.kept hd)
  replace VP := Lib.hid (VP.out.kept hd)
  replace HE := Lib.hid (HE.out.kept hd)
  replace HL := Lib.hid (HL.out.kept hd)
  clear hd
  go_region_held3 (fun w' => w'.cell? ⟨w.heap.size, 0, none⟩ = some (.int .i64 b.size) ∧ w'.cell? ⟨w.heap.size, 1, none⟩ = some (.string b.premium) ∧ w'.cell? ⟨w.heap.size, 2, none⟩ = some (.string b.cells) ∧ w'.cell? ⟨w.heap.size + 1, 0, none⟩ = some (.int .i64 p.row) ∧ w'.cell? ⟨w.heap.size + 1, 1, none⟩ = some (.int .i64 p.col) ∧ w'.cell? ⟨w.heap.size + 1, 2, none⟩ = some (.bool p.down) ∧ w'.cell? ⟨w.heap.size + 1, 3, none⟩ = some (.string p.word))
    (exact ⟨VB.out.cell (i := 0) rfl, VB.out.cell (i := 1) rfl, VB.out.cell (i := 2) rfl, VP.out.cell (i := 0) rfl, VP.out.cell (i := 1) rfl, VP.out.cell (i := 2) rfl, VP.out.cell (i := 3) rfl⟩)
    (((first | (go_at_call 8; refine (toBoard_any b _).mono ?_; rintro e wq ⟨rfl, hd⟩) | (go_at_call 13; refine (toPlay_any p _).mono ?_; rintro e wq ⟨rfl, hd⟩) | (go_at_call 18; refine (HSP.out _).mono ?_; rintro e wq ⟨rfl, hd⟩)); skip; replace VB := Lib.hid (VB.out.kept hd); replace VP := Lib.hid (VP.out.kept hd); replace HE := Lib.hid (HE.out.kept hd); replace HL := Lib.hid (HL.out.kept hd); replace hb := hb.trans (hd.mono hb.size); clear hd))
  generalize wq = w5 at *
  go_upto_region 9 with fail
  have hd : Below w5.heap.size w5 w5.drew := (Below.refl _ _).drew
  replace hb := hb.trans (hd.mono hb.size)
  replace VB := Lib.hid (VB.out.kept hd)
  replace VP := Lib.hid (VP.out.kept hd)
  replace HE := Lib.hid (HE.out.kept hd)
  replace HL := Lib.hid (HL.out.kept hd)
  clear hd
  go_region_held3 (fun w' => w'.cell? ⟨w.heap.size, 0, none⟩ = some (.int .i64 b.size) ∧ w'.cell? ⟨w.heap.size, 1, none⟩ = some (.string b.premium) ∧ w'.cell? ⟨w.heap.size, 2, none⟩ = some (.string b.cells) ∧ w'.cell? ⟨w.heap.size + 1, 0, none⟩ = some (.int .i64 p.row) ∧ w'.cell? ⟨w.heap.size + 1, 1, none⟩ = some (.int .i64 p.col) ∧ w'.cell? ⟨w.heap.size + 1, 2, none⟩ = some (.bool p.down) ∧ w'.cell? ⟨w.heap.size + 1, 3, none⟩ = some (.string p.word))
    (exact ⟨VB.out.cell (i := 0) rfl, VB.out.cell (i := 1) rfl, VB.out.cell (i := 2) rfl, VP.out.cell (i := 0) rfl, VP.out.cell (i := 1) rfl, VP.out.cell (i := 2) rfl, VP.out.cell (i := 3) rfl⟩)
    (((first | (go_at_call 8; refine (toBoard_any b _).mono ?_; rintro e wq ⟨rfl, hd⟩) | (go_at_call 13; refine (toPlay_any p _).mono ?_; rintro e wq ⟨rfl, hd⟩) | (go_at_call 19; refine (HIM.out _ HE.out HL.out).mono ?_; rintro e wq ⟨rfl, hd⟩)); skip; replace VB := Lib.hid (VB.out.kept hd); replace VP := Lib.hid (VP.out.kept hd); replace HE := Lib.hid (HE.out.kept hd); replace HL := Lib.hid (HL.out.kept hd); replace hb := hb.trans (hd.mono hb.size); clear hd))
  generalize wq = w6 at *
  have hkk : (ans != ans) = false := by simp
  go_wp2
  go_ret
  exact ⟨rfl, hb⟩
open Go.Joins Go.Deep Go.Lib in
theorem cenvT_of_laid {W : World} (h : laidMetH Tryd.prog Rows.fnExactTouchesBoardRow.laid W) : CEnv W := by
  rw [MakeChecks.laidMetH_plain _ _ _ (by kernel_rfl)] at h
  exact cenv_of_met h (List.mem_cons_self) (List.mem_cons_of_mem _ (List.mem_cons_self)) (List.mem_cons_of_mem _ (List.mem_cons_of_mem _ (List.mem_cons_self)))
end Go.Proofs.YtoeoijkhlpacdaaDoor
