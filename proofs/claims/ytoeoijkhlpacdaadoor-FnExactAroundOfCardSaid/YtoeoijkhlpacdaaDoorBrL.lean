/- Contracts: the program's AroundOf; the statements' own function eqAround. No condition but that a length fits an int. -/
import Derived.Test.YtoeoijkhlpacdaaDoorBrK
namespace Go.Proofs.YtoeoijkhlpacdaaDoor
open Go.ChangeShapes Go.WideShapes Go.ChangeAt Go.RowKit Go.Sort

set_option maxRecDepth 100000 in
set_option maxHeartbeats 4000000 in
theorem AroundOf_any (b : Brd) (row col : Int) (down : Bool) (w : World) (hf : b.fit) :
    Calls Tryd.prog 9 #[.agg #[.int .i64 b.size, .string b.premium, .string b.cells], .int .i64 row, .int .i64 col, .bool down] w fun e w' => e = .returned (aroundRes b row col down) ∧ Below w.heap.size w w' := by
  obtain ⟨w2, hw2⟩ : ∃ w2, w2 = (w.alloc (.cells #[.int .i64 b.size, .string b.premium, .string b.cells] 29)).alloc (.cells #[.string ⟨#[]⟩, .string ⟨#[]⟩] 26) := ⟨_, rfl⟩
  have hb : Below w.heap.size w w2 := by rw [hw2]; exact ((Below.refl _ _).alloc (Nat.le_refl _) _).alloc (by simp) _
  have VB : Hid (VarAt w2 w.heap.size 29 [.int .i64 b.size, .string b.premium, .string b.cells]) := by
    rw [hw2]
    exact Lib.hid ((VarAt.new w 29 [.int .i64 b.size, .string b.premium, .string b.cells]).kept ((Below.refl _ _).alloc (Nat.le_refl _) _))
  have V0 : Hid (VarAt w2 (w.heap.size + 1) 26 [.string ⟨#[]⟩, .string ⟨#[]⟩]) := by
    rw [hw2]
    have := VarAt.new (w.alloc (.cells #[.int .i64 b.size, .string b.premium, .string b.cells] 29)) 26 [.string ⟨#[]⟩, .string ⟨#[]⟩]
    simp only [World.size_alloc] at this
    exact Lib.hid this
  have HW2 := Lib.hid hw2
  clear hw2
  go_enter Tryd.func9, Tryd.ntmps9
  go_upto_region 1 with fail
  rw [← HW2.out]
  clear HW2
  have b0 := VB.out.cell (i := 0) rfl
  have b1 := VB.out.cell (i := 1) rfl
  have b2 := VB.out.cell (i := 2) rfl
  cases h1 : b.ok with
  | false =>
    have HR := Lib.hid (res_code (down := down) (code_bad (r := row) (c := col) h1) (by decide))
    go_wp2_with fail
    refine (ValidBoard_any b _ hf).mono ?_
    rintro e w3 ⟨rfl, hd⟩
    replace hb := hb.trans (hd.mono hb.size)
    replace b0 := cell_kept b0 hd
    replace b1 := cell_kept b1 hd
    replace b2 := cell_kept b2 hd
    replace V0 := Lib.hid (V0.out.kept hd)
    replace VB := Lib.hid (VB.out.kept hd)
    clear hd
    rw [h1]
    clear h1
    have q0 := V0.out.cell (i := 0) rfl
    have q1 := V0.out.cell (i := 1) rfl
    have p0 := V0.out.free 0
    have p1 := V0.out.free 1
    obtain ⟨o0, k0⟩ := V0.out.set 0 (.string ⟨#[]⟩)
    obtain ⟨o1, k1⟩ := o0.set 1 (.string ⟨#[]⟩)
    have GG := grownBy_trans k0 k1
    have hb9 := hb.grown GG hb.size (fun q h => by cases h; omega)
    have e0 := o1.cell (i := 0) (v := .string ⟨#[]⟩) rfl
    have e1 := o1.cell (i := 1) (v := .string ⟨#[]⟩) rfl
    clear o0 o1 k0 k1 GG
    go_wp2
    refine bodyPost_ret (v := .tuple #[.agg #[.string ⟨#[]⟩, .string ⟨#[]⟩], .int .i64 1]) (by simp [results, Tryd.results9, go_sem, e0, e1]) rfl ?_
    exact ⟨by rw [HR.out], hb9⟩
  | true =>
    obtain ⟨n, hgd⟩ := Brd.good h1
    have HGD := Lib.hid hgd
    clear hgd
    have H1 := Lib.hid h1
    go_wp2_with fail
    refine (ValidBoard_any b _ hf).mono ?_
    rintro e w3 ⟨rfl, hd⟩
    replace hb := hb.trans (hd.mono hb.size)
    replace b0 := cell_kept b0 hd
    replace b1 := cell_kept b1 hd
    replace b2 := cell_kept b2 hd
    replace V0 := Lib.hid (V0.out.kept hd)
    replace VB := Lib.hid (VB.out.kept hd)
    clear hd
    rw [h1]
    clear h1
    cases h2 : b.inB row col with
    | false =>
      have HR := Lib.hid (res_code (down := down) (code_out H1.out h2) (by decide))
      go_wp2_with fail
      refine (inside_any b n row col _ HGD.out).mono ?_
      rintro e w4 ⟨rfl, hd⟩
      replace hb := hb.trans (hd.mono hb.size)
      replace b0 := cell_kept b0 hd
      replace b1 := cell_kept b1 hd
      replace b2 := cell_kept b2 hd
      replace V0 := Lib.hid (V0.out.kept hd)
      replace VB := Lib.hid (VB.out.kept hd)
      clear hd
      rw [h2]
      clear h2
      have q0 := V0.out.cell (i := 0) rfl
      have q1 := V0.out.cell (i := 1) rfl
      have p0 := V0.out.free 0
      have p1 := V0.out.free 1
      obtain ⟨o0, k0⟩ := V0.out.set 0 (.string ⟨#[]⟩)
      obtain ⟨o1, k1⟩ := o0.set 1 (.string ⟨#[]⟩)
      have GG := grownBy_trans k0 k1
      have hb9 := hb.grown GG hb.size (fun q h => by cases h; omega)
      have e0 := o1.cell (i := 0) (v := .string ⟨#[]⟩) rfl
      have e1 := o1.cell (i := 1) (v := .string ⟨#[]⟩) rfl
      clear o0 o1 k0 k1 GG
      go_wp2
      refine bodyPost_ret (v := .tuple #[.agg #[.string ⟨#[]⟩, .string ⟨#[]⟩], .int .i64 2]) (by simp [results, Tryd.results9, go_sem, e0, e1]) rfl ?_
      exact ⟨by rw [HR.out], hb9⟩
    | true =>
      have H2 := Lib.hid h2
      go_wp2_with fail
      refine (inside_any b n row col _ HGD.out).mono ?_
      rintro e w4 ⟨rfl, hd⟩
      replace hb := hb.trans (hd.mono hb.size)
      replace b0 := cell_kept b0 hd
      replace b1 := cell_kept b1 hd
      replace b2 := cell_kept b2 hd
      replace V0 := Lib.hid (V0.out.kept hd)
      replace VB := Lib.hid (VB.out.kept hd)
      clear hd
      rw [h2]
      clear h2
      cases h3 : fullC (b.cell row col) with
      | true =>
        have HR := Lib.hid (res_code (down := down) (code_full H1.out H2.out h3) (by decide))
        go_wp2_with fail
        refine (on_any b n row col _ HGD.out).mono ?_
        rintro e w5 ⟨rfl, hd⟩
        replace hb := hb.trans (hd.mono hb.size)
        replace b0 := cell_kept b0 hd
        replace b1 := cell_kept b1 hd
        replace b2 := cell_kept b2 hd
        replace V0 := Lib.hid (V0.out.kept hd)
        replace VB := Lib.hid (VB.out.kept hd)
        clear hd
        rw [h3]
        clear h3
        have q0 := V0.out.cell (i := 0) rfl
        have q1 := V0.out.cell (i := 1) rfl
        have p0 := V0.out.free 0
        have p1 := V0.out.free 1
        obtain ⟨o0, k0⟩ := V0.out.set 0 (.string ⟨#[]⟩)
        obtain ⟨o1, k1⟩ := o0.set 1 (.string ⟨#[]⟩)
        have GG := grownBy_trans k0 k1
        have hb9 := hb.grown GG hb.size (fun q h => by cases h; omega)
        have e0 := o1.cell (i := 0) (v := .string ⟨#[]⟩) rfl
        have e1 := o1.cell (i := 1) (v := .string ⟨#[]⟩) rfl
        clear o0 o1 k0 k1 GG
        go_wp2
        refine bodyPost_ret (v := .tuple #[.agg #[.string ⟨#[]⟩, .string ⟨#[]⟩], .int .i64 6]) (by simp [results, Tryd.results9, go_sem, e0, e1]) rfl ?_
        exact ⟨by rw [HR.out], hb9⟩
      | false =>
        have HR := Lib.hid (res_ok (down := down) (code_free H1.out H2.out h3))
        go_wp2_with fail
        refine (on_any b n row col _ HGD.out).mono ?_
        rintro e w5 ⟨rfl, hd⟩
        replace hb := hb.trans (hd.mono hb.size)
        replace b0 := cell_kept b0 hd
        replace b1 := cell_kept b1 hd
        replace b2 := cell_kept b2 hd
        replace V0 := Lib.hid (V0.out.kept hd)
        replace VB := Lib.hid (VB.out.kept hd)
        clear hd
        rw [h3]
        clear h3
        go_wp2_with fail
        refine (around_any b n row col down _ HGD.out H2.out).mono ?_
        rintro e w6 ⟨rfl, hd⟩
        clear b0 b1 b2
        replace hb := hb.trans (hd.mono hb.size)
        replace V0 := Lib.hid (V0.out.kept hd)
        clear hd
        unfold aroundS at *
        generalize mkB (b.around row col down).1 = x at *
        generalize mkB (b.around row col down).2 = y at *
        have q0 := V0.out.cell (i := 0) rfl
        have q1 := V0.out.cell (i := 1) rfl
        have p0 := V0.out.free 0
        have p1 := V0.out.free 1
        obtain ⟨o0, k0⟩ := V0.out.set 0 (.string x)
        obtain ⟨o1, k1⟩ := o0.set 1 (.string y)
        have GG := grownBy_trans k0 k1
        have hb9 := hb.grown GG hb.size (fun q h => by cases h; omega)
        have e0 := o1.cell (i := 0) (v := .string x) rfl
        have e1 := o1.cell (i := 1) (v := .string y) rfl
        clear o0 o1 k0 k1 GG
        go_wp2
        refine bodyPost_ret (v := .tuple #[.agg #[.string x, .string y], .int .i64 0]) (by simp [results, Tryd.results9, go_sem, e0, e1]) rfl ?_
        exact ⟨by rw [HR.out], hb9⟩
theorem eqAround_any (x y : ByteArray) (w : World) :
    Calls Tryd.prog 10 #[.agg #[.string x, .string y], .agg #[.string x, .string y]] w fun e w' => e = .returned (.bool true) ∧ Below w.heap.size w w' := by
  go_enter Tryd.func10, Tryd.ntmps10
  go_wp2
  go_ret
  exact ⟨rfl, by go_grown⟩
/-- the result in its parts -/
theorem res_parts (b : Brd) (r c : Int) (down : Bool) : ∃ x y k, aroundRes b r c down = .tuple #[.agg #[.string x, .string y], .int .i64 k] := by
  unfold aroundRes
  split
  · exact ⟨_, _, _, rfl⟩
  · exact ⟨_, _, _, rfl⟩
set_option maxRecDepth 100000 in
set_option maxHeartbeats 4000000 in
theorem lawAroundOf_any (b : Brd) (row col : Int) (down : Bool) (w : World) (hf : b.fit) :
    Calls Tryd.prog 3 #[.agg #[.int .i64 b.size, .string b.premium, .string b.cells], .int .i64 row, .int .i64 col, .bool down] w fun e w' => e = .returned (.bool true) ∧ Below w.heap.size w w' := by
  have hb : Below w.heap.size w (w.alloc (.cells #[.int .i64 b.size, .string b.premium, .string b.cells] 23)) := (Below.refl _ _).alloc (Nat.le_refl _) _
  have VB := Lib.hid (VarAt.new w 23 [.int .i64 b.size, .string b.premium, .string b.cells])
  obtain ⟨x, y, k, hres⟩ := res_parts b row col down
  have HSP : Hid (∀ W, Calls Tryd.prog 7 #[.agg #[.int .i64 b.size, .string b.premium, .string b.cells], .int .i64 row, .int .i64 col, .bool down] W fun e w' => e = .returned (.tuple #[.agg #[.string x, .string y], .int .i64 k]) ∧ Below W.heap.size W w') := Lib.hid (fun W => by have := specAroundOf_any b row col down W hf; rwa [hres] at this)
  have HIM : Hid (∀ W, Calls Tryd.prog 9 #[.agg #[.int .i64 b.size, .string b.premium, .string b.cells], .int .i64 row, .int .i64 col, .bool down] W fun e w' => e = .returned (.tuple #[.agg #[.string x, .string y], .int .i64 k]) ∧ Below W.heap.size W w') := Lib.hid (fun W => by have := AroundOf_any b row col down W hf; rwa [hres] at this)
  clear hres
  go_enter Tryd.func3, Tryd.ntmps3
  go_upto_region 2 with fail
  generalize w.alloc (.cells #[.int .i64 b.size, .string b.premium, .string b.cells] 23) = w1 at *
  have b0 := VB.out.cell (i := 0) rfl
  have b1 := VB.out.cell (i := 1) rfl
  have b2 := VB.out.cell (i := 2) rfl
  go_wp2_with fail
  refine (szBoard_any b 1048576 _ (by omega) (by omega) hf).mono ?_
  rintro e w2 ⟨l1, rfl, z1, hd⟩
  replace hb := hb.trans (hd.mono hb.size)
  replace b0 := cell_kept b0 hd
  replace b1 := cell_kept b1 hd
  replace b2 := cell_kept b2 hd
  replace VB := Lib.hid (VB.out.kept hd)
  clear hd
  rcases z1 with rfl | ⟨y1, z1⟩
  · go_wp2
    go_ret
    exact ⟨rfl, hb⟩
  have n1 : ¬ l1 < 0 := by omega
  go_wp2_with fail
  refine (toBoard_any b _).mono ?_
  rintro e w3 ⟨rfl, hd⟩
  replace hb := hb.trans (hd.mono hb.size)
  replace b0 := cell_kept b0 hd
  replace b1 := cell_kept b1 hd
  replace b2 := cell_kept b2 hd
  replace VB := Lib.hid (VB.out.kept hd)
  clear hd
  go_wp2_with fail
  refine (HSP.out _).mono ?_
  rintro e w4 ⟨rfl, hd⟩
  replace hb := hb.trans (hd.mono hb.size)
  replace b0 := cell_kept b0 hd
  replace b1 := cell_kept b1 hd
  replace b2 := cell_kept b2 hd
  replace VB := Lib.hid (VB.out.kept hd)
  clear hd
  have V1 := Lib.hid (VarAt.new w4 26 [.string x, .string y])
  have hd : Below w4.heap.size w4 (w4.alloc (.cells #[.string x, .string y] 26)) := (Below.refl _ _).alloc (Nat.le_refl _) _
  replace hb := hb.trans (hd.mono hb.size)
  replace b0 := cell_kept b0 hd
  replace b1 := cell_kept b1 hd
  replace b2 := cell_kept b2 hd
  replace VB := Lib.hid (VB.out.kept hd)
  clear hd
  go_wp2_with fail
  refine (toBoard_any b _).mono ?_
  rintro e w5 ⟨rfl, hd⟩
  replace hb := hb.trans (hd.mono hb.size)
  replace b0 := cell_kept b0 hd
  replace b1 := cell_kept b1 hd
  replace b2 := cell_kept b2 hd
  replace VB := Lib.hid (VB.out.kept hd)
  replace V1 := Lib.hid (V1.out.kept hd)
  clear hd
  go_wp2_with fail
  refine (HIM.out _).mono ?_
  rintro e w6 ⟨rfl, hd⟩
  clear b0 b1 b2 VB
  replace hb := hb.trans (hd.mono hb.size)
  replace V1 := Lib.hid (V1.out.kept hd)
  clear hd
  have V2 := Lib.hid (VarAt.new w6 26 [.string x, .string y])
  have hd : Below w6.heap.size w6 (w6.alloc (.cells #[.string x, .string y] 26)) := (Below.refl _ _).alloc (Nat.le_refl _) _
  replace hb := hb.trans (hd.mono hb.size)
  replace V1 := Lib.hid (V1.out.kept hd)
  clear hd
  have c0 := V1.out.cell (i := 0) rfl
  have c1 := V1.out.cell (i := 1) rfl
  have d0 := V2.out.cell (i := 0) rfl
  have d1 := V2.out.cell (i := 1) rfl
  go_wp2_with fail
  refine (eqAround_any x y _).mono ?_
  rintro e w7 ⟨rfl, hd⟩
  have hb9 := hb.trans (hd.mono hb.size)
  clear c0 c1 d0 d1 hd hb
  have hkk : (k != k) = false := by simp
  go_wp2
  go_ret
  exact ⟨rfl, hb9⟩
end Go.Proofs.YtoeoijkhlpacdaaDoor
