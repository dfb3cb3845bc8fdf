/- Contract: the reference's AroundOf. No condition but that a length fits an int. -/
import Derived.Test.YtoeoijkhlpacdaaDoorBrG
namespace Go.Proofs.YtoeoijkhlpacdaaDoor
open Go.ChangeShapes Go.WideShapes Go.ChangeAt Go.RowKit Go.Sort

/-! ### Plain -/
def aroundS (b : Brd) (r c : Int) (down : Bool) : Value := .agg #[.string (mkB (b.around r c down).1), .string (mkB (b.around r c down).2)]
def aroundRes (b : Brd) (r c : Int) (down : Bool) : Value :=
  if b.aroundCode r c = 0 then .tuple #[aroundS b r c down, .int .i64 0] else .tuple #[.agg #[.string ⟨#[]⟩, .string ⟨#[]⟩], .int .i64 (b.aroundCode r c)]
theorem code_bad {b : Brd} {r c : Int} (h : b.ok = false) : b.aroundCode r c = 1 := by unfold Brd.aroundCode; rw [h]; rfl
theorem code_out {b : Brd} {r c : Int} (h : b.ok = true) (h2 : b.inB r c = false) : b.aroundCode r c = 2 := by unfold Brd.aroundCode; rw [h, h2]; rfl
theorem code_full {b : Brd} {r c : Int} (h : b.ok = true) (h2 : b.inB r c = true) (h3 : fullC (b.cell r c) = true) : b.aroundCode r c = 6 := by unfold Brd.aroundCode; rw [h, h2, h3]; rfl
theorem code_free {b : Brd} {r c : Int} (h : b.ok = true) (h2 : b.inB r c = true) (h3 : fullC (b.cell r c) = false) : b.aroundCode r c = 0 := by unfold Brd.aroundCode; rw [h, h2, h3]; rfl
theorem res_ok {b : Brd} {r c : Int} {down : Bool} (h : b.aroundCode r c = 0) : aroundRes b r c down = .tuple #[aroundS b r c down, .int .i64 0] := by unfold aroundRes; rw [if_pos h]
theorem res_code {b : Brd} {r c k : Int} {down : Bool} (h : b.aroundCode r c = k) (hk : k ≠ 0) : aroundRes b r c down = .tuple #[.agg #[.string ⟨#[]⟩, .string ⟨#[]⟩], .int .i64 k] := by unfold aroundRes; rw [if_neg (by rw [h]; exact hk), h]
theorem around_across (b : Brd) (r c : Int) : aroundS b r c false = .agg #[.string (mkB (lowL (upL b.cell c 16 (r - 1)).reverse)), .string (mkB (lowL (dnL b.cell c 16 (r + 1))))] := rfl
theorem around_down {b : Brd} {n : Nat} (h : b.Good n) (r c : Int) : aroundS b r c true = .agg #[.string (mkB (lowL (upL b.turn.cell r 16 (c - 1)).reverse)), .string (mkB (lowL (dnL b.turn.cell r 16 (c + 1))))] := by
  rw [h.turn_cell]; rfl

set_option maxRecDepth 100000 in
set_option maxHeartbeats 2000000 in
theorem l14Around_any (b : Brd) (n : Nat) (row col : Int) (down : Bool) (g o : Nat) (w : World) (hb0 : b.Good n) (hg : BAt w g o b) (hi : b.inB row col = true) :
    Calls Tryd.prog 21 #[.pointer (some ⟨g, o, none⟩), .int .i64 row, .int .i64 col, .bool down] w fun e w' => e = .returned (aroundS b row col down) ∧ Below w.heap.size w w' := by
  have hlt := hg.lt
  obtain ⟨⟨r0, r1⟩, c0, c1⟩ := hb0.inB.1 hi
  have hx0 : Below w.heap.size w (w.alloc (.cells #[.string ⟨#[]⟩, .string ⟨#[]⟩] 26)) := (Below.refl _ _).alloc (Nat.le_refl _) _
  have V0 := Lib.hid (VarAt.new w 26 [.string ⟨#[]⟩, .string ⟨#[]⟩])
  have HG := Lib.hid (hg.kept hx0)
  clear hg hi
  cases down with
  | true =>
    have HR := Lib.hid (around_down hb0 row col)
    have HGT := Lib.hid hb0.turn
    have HGD := Lib.hid hb0
    clear hb0
    rw [HR.out]
    go_enter Tryd.func21, Tryd.ntmps21
    go_upto_region 2 with fail
    generalize w.alloc (.cells #[.string ⟨#[]⟩, .string ⟨#[]⟩] 26) = w1 at *
    have hb := hx0
    clear hx0
    go_wp2_with fail
    refine (l11Transpose_any b n g o _ HGD.out HG.out).mono ?_
    rintro e w2 ⟨rfl, hd⟩
    replace hb := hb.trans (hd.mono hb.size)
    replace V0 := Lib.hid (V0.out.kept hd)
    replace HG := Lib.hid (HG.out.kept hd)
    clear hd
    have hx : Below w2.heap.size w2 (w2.alloc (.cells #[.int .i64 b.turn.size, .string b.turn.premium, .string b.turn.cells] 29)) := (Below.refl _ _).alloc (Nat.le_refl _) _
    have HB := Lib.hid (BAt.new w2 b.turn 29)
    replace hb := hb.trans (hx.mono hb.size)
    replace V0 := Lib.hid (V0.out.kept hx)
    clear hx
    generalize hbt : b.turn = bt at *
    have HBT := Lib.hid hbt
    clear hbt
    go_wp2_with fail
    refine (l14Column_any bt n col row w2.heap.size 0 _ HGT.out HB.out c0 c1).mono ?_
    rintro e w3 ⟨rfl, hd⟩
    replace hb := hb.trans (hd.mono hb.size)
    replace V0 := Lib.hid (V0.out.kept hd)
    clear hd
    generalize hx : mkB (lowL (upL bt.cell row 16 (col - 1)).reverse) = x at *
    have HX := Lib.hid hx
    clear hx
    generalize hy : mkB (lowL (dnL bt.cell row 16 (col + 1))) = y at *
    have HY := Lib.hid hy
    clear hy
    have q0 := V0.out.cell (i := 0) rfl
    have q1 := V0.out.cell (i := 1) rfl
    have p0 := V0.out.free 0
    have p1 := V0.out.free 1
    obtain ⟨o0, k0⟩ := V0.out.set 0 (.string x)
    obtain ⟨o1, k1⟩ := o0.set 1 (.string y)
    have GG := grownBy_trans k0 k1
    have hb9 := hb.grown GG hb.size (fun q h => by cases h; exact Nat.le_refl _)
    have e0 := o1.cell (i := 0) (v := .string x) rfl
    have e1 := o1.cell (i := 1) (v := .string y) rfl
    clear o0 o1 k0 k1 GG
    go_wp2
    refine bodyPost_ret (v := .agg #[.string x, .string y]) (by simp [results, Tryd.results21, go_sem, e0, e1]) rfl ?_
    exact ⟨by rw [← HX.out, ← HY.out, ← HBT.out], hb9⟩
  | false =>
    rw [around_across]
    go_enter Tryd.func21, Tryd.ntmps21
    go_upto_region 2 with fail
    generalize w.alloc (.cells #[.string ⟨#[]⟩, .string ⟨#[]⟩] 26) = w1 at *
    have hb := hx0
    clear hx0
    go_wp2_with fail
    refine (l14Column_any b n row col g o _ hb0 HG.out r0 r1).mono ?_
    rintro e w3 ⟨rfl, hd⟩
    replace hb := hb.trans (hd.mono hb.size)
    replace V0 := Lib.hid (V0.out.kept hd)
    clear hd
    generalize hx : mkB (lowL (upL b.cell col 16 (row - 1)).reverse) = x at *
    have HX := Lib.hid hx
    clear hx
    generalize hy : mkB (lowL (dnL b.cell col 16 (row + 1))) = y at *
    have HY := Lib.hid hy
    clear hy
    have q0 := V0.out.cell (i := 0) rfl
    have q1 := V0.out.cell (i := 1) rfl
    have p0 := V0.out.free 0
    have p1 := V0.out.free 1
    obtain ⟨o0, k0⟩ := V0.out.set 0 (.string x)
    obtain ⟨o1, k1⟩ := o0.set 1 (.string y)
    have GG := grownBy_trans k0 k1
    have hb9 := hb.grown GG hb.size (fun q h => by cases h; exact Nat.le_refl _)
    have e0 := o1.cell (i := 0) (v := .string x) rfl
    have e1 := o1.cell (i := 1) (v := .string y) rfl
    clear o0 o1 k0 k1 GG
    go_wp2
    refine bodyPost_ret (v := .agg #[.string x, .string y]) (by simp [results, Tryd.results21, go_sem, e0, e1]) rfl ?_
    exact ⟨by rw [← HX.out, ← HY.out], hb9⟩
set_option maxHeartbeats 1000000 in
theorem l14Code_any (b : Brd) (row col : Int) (g o : Nat) (w : World) (hf : b.fit) (hg : BAt w g o b) :
    Calls Tryd.prog 20 #[.pointer (some ⟨g, o, none⟩), .int .i64 row, .int .i64 col] w fun e w' => e = .returned (.int .i64 (b.aroundCode row col)) ∧ Below w.heap.size w w' := by
  have HG := Lib.hid hg
  clear hg
  have hb : Below w.heap.size w w := Below.refl _ _
  cases h1 : b.ok with
  | false =>
    have HC := Lib.hid (code_bad (r := row) (c := col) h1)
    go_enter Tryd.func20, Tryd.ntmps20
    go_wp2_with fail
    refine (l11Ok_any b g o _ HG.out hf).mono ?_
    rintro e w1 ⟨rfl, hdq⟩
    have hd := hdq.bels
    clear hdq
    replace hb := hb.trans (hd.mono hb.size)
    replace HG := Lib.hid (HG.out.kept hd)
    clear hd
    rw [h1]
    clear h1
    go_wp2
    go_ret
    exact ⟨by rw [HC.out]; rfl, hb⟩
  | true =>
    obtain ⟨n, hgd⟩ := Brd.good h1
    have HGD := Lib.hid hgd
    clear hgd
    have H1 := Lib.hid h1
    go_enter Tryd.func20, Tryd.ntmps20
    go_wp2_with fail
    refine (l11Ok_any b g o _ HG.out hf).mono ?_
    rintro e w1 ⟨rfl, hdq⟩
    have hd := hdq.bels
    clear hdq
    replace hb := hb.trans (hd.mono hb.size)
    replace HG := Lib.hid (HG.out.kept hd)
    clear hd
    rw [h1]
    clear h1
    cases h2 : b.inB row col with
    | false =>
      have HC := Lib.hid (code_out H1.out h2)
      go_wp2_with fail
      refine (l11In_any b n row col g o _ HGD.out HG.out).mono ?_
      rintro e w1 ⟨rfl, rfl⟩
      rw [h2]
      clear h2
      go_wp2
      go_ret
      exact ⟨by rw [HC.out]; rfl, hb⟩
    | true =>
      have H2 := Lib.hid h2
      go_wp2_with fail
      refine (l11In_any b n row col g o _ HGD.out HG.out).mono ?_
      rintro e w1 ⟨rfl, rfl⟩
      rw [h2]
      clear h2
      cases h3 : fullC (b.cell row col) with
      | true =>
        have HC := Lib.hid (code_full H1.out H2.out h3)
        go_wp2_with fail
        refine (l14Free_any b n row col g o _ HGD.out HG.out H2.out).mono ?_
        rintro e w1 ⟨rfl, hdq⟩
        have hd := hdq.bels
        clear hdq
        replace hb := hb.trans (hd.mono hb.size)
        replace HG := Lib.hid (HG.out.kept hd)
        clear hd
        rw [h3]
        clear h3
        go_wp2
        go_ret
        exact ⟨by rw [HC.out]; rfl, hb⟩
      | false =>
        have HC := Lib.hid (code_free H1.out H2.out h3)
        go_wp2_with fail
        refine (l14Free_any b n row col g o _ HGD.out HG.out H2.out).mono ?_
        rintro e w1 ⟨rfl, hdq⟩
        have hd := hdq.bels
        clear hdq
        replace hb := hb.trans (hd.mono hb.size)
        replace HG := Lib.hid (HG.out.kept hd)
        clear hd
        rw [h3]
        clear h3
        go_wp2
        go_ret
        exact ⟨by rw [HC.out]; rfl, hb⟩
set_option maxRecDepth 100000 in
set_option maxHeartbeats 2000000 in
theorem specAroundOf_any (b : Brd) (row col : Int) (down : Bool) (w : World) (hf : b.fit) :
    Calls Tryd.prog 7 #[.agg #[.int .i64 b.size, .string b.premium, .string b.cells], .int .i64 row, .int .i64 col, .bool down] w fun e w' => e = .returned (aroundRes b row col down) ∧ Below w.heap.size w w' := by
  obtain ⟨w2, hw2⟩ : ∃ w2, w2 = (w.alloc (.cells #[.int .i64 b.size, .string b.premium, .string b.cells] 29)).alloc (.cells #[.string ⟨#[]⟩, .string ⟨#[]⟩] 26) := ⟨_, rfl⟩
  have hb : Below w.heap.size w w2 := by rw [hw2]; exact ((Below.refl _ _).alloc (Nat.le_refl _) _).alloc (by simp) _
  have HG : Hid (BAt w2 w.heap.size 0 b) := by
    rw [hw2]
    exact Lib.hid ((BAt.new w b 29).kept ((Below.refl _ _).alloc (Nat.le_refl _) _))
  have V0 : Hid (VarAt w2 (w.heap.size + 1) 26 [.string ⟨#[]⟩, .string ⟨#[]⟩]) := by
    rw [hw2]
    have := VarAt.new (w.alloc (.cells #[.int .i64 b.size, .string b.premium, .string b.cells] 29)) 26 [.string ⟨#[]⟩, .string ⟨#[]⟩]
    simp only [World.size_alloc] at this
    exact Lib.hid this
  have HW2 := Lib.hid hw2
  clear hw2
  go_enter Tryd.func7, Tryd.ntmps7
  go_upto_region 1 with fail
  rw [← HW2.out]
  clear HW2
  go_wp2_with fail
  refine (l14Code_any b row col w.heap.size 0 _ hf HG.out).mono ?_
  rintro e w3 ⟨rfl, hd⟩
  replace hb := hb.trans (hd.mono hb.size)
  replace HG := Lib.hid (HG.out.kept hd)
  replace V0 := Lib.hid (V0.out.kept hd)
  clear hd
  by_cases hc : b.aroundCode row col = 0
  · have HR := Lib.hid (res_ok (down := down) hc)
    have hg2 : ∃ n, b.Good n ∧ b.inB row col = true := by
      unfold Brd.aroundCode at hc
      split at hc
      · rename_i h1
        split at hc
        · rename_i h2
          obtain ⟨n, h⟩ := Brd.good h1
          exact ⟨n, h, h2⟩
        · simp at hc
      · simp at hc
    obtain ⟨n, hgd, hin⟩ := hg2
    rw [hc]
    go_wp2_with fail
    refine (l14Around_any b n row col down w.heap.size 0 _ hgd HG.out hin).mono ?_
    rintro e w4 ⟨rfl, hd⟩
    replace hb := hb.trans (hd.mono hb.size)
    replace V0 := Lib.hid (V0.out.kept hd)
    clear hd
    clear hc hgd hin
    unfold aroundS at *
    generalize mkB (b.around row col down).1 = x at *
    generalize mkB (b.around row col down).2 = y at *
    have q0 := V0.out.cell (i := 0) rfl
    have q1 := V0.out.cell (i := 1) rfl
    have p0 := V0.out.free 0
    have p1 := V0.out.free 1
    obtain ⟨o0, k0⟩ := V0.out.set 0 (.string x)
    obtain ⟨o1, k1⟩ := o0.set 1 (.string y)
    have GG := grownBy_trans k0 k1
    have hb9 := hb.grown GG hb.size (fun q h => by cases h; omega)
    have e0 := o1.cell (i := 0) (v := .string x) rfl
    have e1 := o1.cell (i := 1) (v := .string y) rfl
    clear o0 o1 k0 k1 GG
    go_wp2
    refine bodyPost_ret (v := .tuple #[.agg #[.string x, .string y], .int .i64 0]) (by simp [results, Tryd.results7, go_sem, e0, e1]) rfl ?_
    exact ⟨by rw [HR.out], hb9⟩
  · have HR := Lib.hid (res_code (down := down) (b := b) (r := row) (c := col) rfl hc)
    have hne : ((b.aroundCode row col) != 0) = true := by simpa using hc
    generalize b.aroundCode row col = k at *
    have q0 := V0.out.cell (i := 0) rfl
    have q1 := V0.out.cell (i := 1) rfl
    have p0 := V0.out.free 0
    have p1 := V0.out.free 1
    obtain ⟨o0, k0⟩ := V0.out.set 0 (.string ⟨#[]⟩)
    obtain ⟨o1, k1⟩ := o0.set 1 (.string ⟨#[]⟩)
    have GG := grownBy_trans k0 k1
    have hb9 := hb.grown GG hb.size (fun q h => by cases h; omega)
    have e0 := o1.cell (i := 0) (v := .string ⟨#[]⟩) rfl
    have e1 := o1.cell (i := 1) (v := .string ⟨#[]⟩) rfl
    clear o0 o1 k0 k1 GG
    go_wp2
    refine bodyPost_ret (v := .tuple #[.agg #[.string ⟨#[]⟩, .string ⟨#[]⟩], .int .i64 k]) (by simp [results, Tryd.results7, go_sem, e0, e1]) rfl ?_
    exact ⟨by rw [HR.out], hb9⟩
end Go.Proofs.YtoeoijkhlpacdaaDoor
