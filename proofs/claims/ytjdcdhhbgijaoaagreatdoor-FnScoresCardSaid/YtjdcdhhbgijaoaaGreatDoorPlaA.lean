/- Contracts: the reference's plays: placed words, plays turned over, boards and plays seen across. For valid boards. · Contracts: the reference's test on plays. For valid boards; the whole test: no condition but that lengths fit an int. · Contracts: the reference's whole test on plays; the squares that a play fills; a word across. For valid boards; the test: no condition but that lengths fit an int. -/
import Derived.Test.YtjdcdhhbgijaoaaGreatDoorPlaP
import Derived.Test.YtjdcdhhbgijaoaaGreatDoorBrD
namespace Go.Proofs.YtjdcdhhbgijaoaaGreatDoor
open Go.ChangeShapes Go.WideShapes Go.ChangeAt Go.RowKit Go.Sort

/-! ### Plain -/
theorem placed_no {s : ByteArray} {k : Nat} (h : k < s.size) (hp : letB (s[k].toNat : Int) = false) : placedL s.data.toList = false := by
  unfold placedL
  rw [all_get (p := fun c => letB c.toNat) h hp, Bool.and_false]
theorem placed_end {s : ByteArray} {k : Nat} (hk : s.size ≤ k) (h : upTo letB s k) : placedL s.data.toList = withinB s.size 1 12 := by
  unfold placedL withinB
  rw [all_end (p := fun c => letB c.toNat) hk h, Bool.and_true]
  have hl : s.data.toList.length = s.size := by simp
  rw [hl]
  congr 1
  · rw [Bool.eq_iff_iff, decide_eq_true_iff, decide_eq_true_iff]; omega
  · rw [Bool.eq_iff_iff, decide_eq_true_iff, decide_eq_true_iff]; omega
theorem main_short {s : ByteArray} (h : ¬ 1 < s.size) : mainL s.data.toList = false := by
  unfold mainL
  have hl : s.data.toList.length = s.size := by simp
  rw [hl, decide_eq_false (by omega)]; rfl
theorem main_long {s : ByteArray} (h : 1 < s.size) : mainL s.data.toList = placedL s.data.toList := by
  unfold mainL
  have hl : s.data.toList.length = s.size := by simp
  rw [hl, decide_eq_true (by omega)]; rfl
theorem letB_small {c : Int} (h : smallB c = true) : letB c = true := by unfold letB; rw [h]; rfl
theorem letB_cap {c : Int} (h : smallB c = false) : letB c = capB c := by unfold letB; rw [h]; rfl

set_option maxHeartbeats 2000000 in
theorem l03Placed_any (s : ByteArray) (w : World) (hs : s.size ≤ 9223372036854775807) : Calls Tryz.prog 239 #[.string s] w fun e w' => e = .returned (.bool (placedL s.data.toList)) ∧ w = w' := by
  have HNO := Lib.hid (fun k (h : k < s.size) => placed_no (s := s) (k := k) h)
  have HEND := Lib.hid (fun k (h : s.size ≤ k) => placed_end (s := s) (k := k) h)
  generalize placedL s.data.toList = res at *
  go_enter Tryz.func239, Tryz.ntmps239
  go_wp2
  go_loop [3] (fun i => ∃ k : Nat, k ≤ s.size ∧ i = .int .i64 k ∧ Hid (upTo letB s k)) (fun i => s.size - (intOf i).toNat)
  case atStart => exact ⟨0, Nat.zero_le _, rfl, Lib.hid (upTo.zero _ _)⟩
  case round =>
    obtain ⟨k, hk, rfl, HA⟩ := hrel
    by_cases hlt : k < s.size
    · cases h1 : smallB (s[k].toNat : Int) with
      | true =>
        have HN : Hid (upTo letB s (k + 1)) := Lib.hid (all_step hlt HA.out (letB_small h1))
        go_wp2_with fail
        refine (l01Small_any _ _).mono ?_
        rintro e w' ⟨rfl, rfl⟩
        rw [h1]
        clear h1
        go_wp2
        go_round
        case rel => exact ⟨k + 1, by omega, by go_num, HN⟩
        case measure => simp [intOf]; omega
      | false =>
        cases h2 : capB (s[k].toNat : Int) with
        | true =>
          have HN : Hid (upTo letB s (k + 1)) := Lib.hid (all_step hlt HA.out ((letB_cap h1).trans h2))
          go_wp2_with fail
          refine (l01Small_any _ _).mono ?_
          rintro e w' ⟨rfl, rfl⟩
          rw [h1]
          clear h1
          go_wp2_with fail
          refine (l03Capital_any _ _).mono ?_
          rintro e w' ⟨rfl, rfl⟩
          rw [h2]
          clear h2
          go_wp2
          go_round
          case rel => exact ⟨k + 1, by omega, by go_num, HN⟩
          case measure => simp [intOf]; omega
        | false =>
          have HN : Hid (res = false) := Lib.hid (HNO.out k hlt ((letB_cap h1).trans h2))
          go_wp2_with fail
          refine (l01Small_any _ _).mono ?_
          rintro e w' ⟨rfl, rfl⟩
          rw [h1]
          clear h1
          go_wp2_with fail
          refine (l03Capital_any _ _).mono ?_
          rintro e w' ⟨rfl, rfl⟩
          rw [h2]
          clear h2
          go_wp2
          go_ret
          exact ⟨ret_bool HN.out.symm, rfl⟩
    · have HN : Hid (res = withinB s.size 1 12) := Lib.hid (HEND.out k (by omega) HA.out)
      go_wp2_with fail
      refine (l00In_any _ _ _ _).mono ?_
      rintro e w' ⟨rfl, rfl⟩
      go_wp2
      go_ret
      exact ⟨ret_bool HN.out.symm, rfl⟩
theorem l12Word_any (s : ByteArray) (w : World) (hs : s.size ≤ 9223372036854775807) : Calls Tryz.prog 173 #[.string s] w fun e w' => e = .returned (.bool (mainL s.data.toList)) ∧ w = w' := by
  by_cases h1 : 1 < s.size
  · have HN := Lib.hid (main_long h1)
    go_enter Tryz.func173, Tryz.ntmps173
    go_wp2_with fail
    refine (l03Placed_any s _ hs).mono ?_
    rintro e w' ⟨rfl, rfl⟩
    go_wp2
    go_ret
    exact ⟨ret_bool HN.out.symm, rfl⟩
  · have HN := Lib.hid (main_short h1)
    go_enter Tryz.func173, Tryz.ntmps173
    go_wp2
    go_ret
    exact ⟨ret_bool HN.out.symm, rfl⟩
set_option maxHeartbeats 1000000 in
theorem l12Turn_any (p : Ply) (w : World) : Calls Tryz.prog 79 #[.agg #[.int .i64 p.row, .int .i64 p.col, .bool p.down, .string p.word]] w fun e w' => e = .returned (.agg #[.int .i64 p.col, .int .i64 p.row, .bool (!p.down), .string p.word]) ∧ Below w.heap.size w w' := by
  obtain ⟨r, c, d, s⟩ := p
  cases d
  · go_enter Tryz.func79, Tryz.ntmps79
    go_wp2
    go_returns
    exact ⟨rfl, by go_grown⟩
  · go_enter Tryz.func79, Tryz.ntmps79
    go_wp2
    go_returns
    exact ⟨rfl, by go_grown⟩
/-- a board and a play on it, seen across -/
def flatV (b : Brd) (p : Ply) : Value := .tuple #[.agg #[.int .i64 (b.flat p.down).size, .string (b.flat p.down).premium, .string (b.flat p.down).cells], .agg #[.int .i64 p.flat.row, .int .i64 p.flat.col, .bool p.flat.down, .string p.word]]
set_option maxRecDepth 100000 in
set_option maxHeartbeats 4000000 in
theorem l12Flat_any (b : Brd) (p : Ply) (n g o : Nat) (w : World) (hb0 : b.Good n) (hg : BAt w g o b) :
    Calls Tryz.prog 91 #[.pointer (some ⟨g, o, none⟩), .agg #[.int .i64 p.row, .int .i64 p.col, .bool p.down, .string p.word]] w fun e w' => e = .returned (flatV b p) ∧ Below w.heap.size w w' := by
  obtain ⟨r, c, d, s⟩ := p
  have hlt := hg.lt
  obtain ⟨w2, hw2⟩ : ∃ w2, w2 = ((w.alloc (.cells #[.int .i64 r, .int .i64 c, .bool d, .string s] 30)).alloc (.cells #[.int .i64 0, .string ⟨#[]⟩, .string ⟨#[]⟩] 25)).alloc (.cells #[.int .i64 0, .int .i64 0, .bool false, .string ⟨#[]⟩] 30) := ⟨_, rfl⟩
  have hb : Below w.heap.size w w2 := by rw [hw2]; exact (((Below.refl _ _).alloc (Nat.le_refl _) _).alloc (by simp) _).alloc (by simp; omega) _
  have VP : Hid (VarAt w2 w.heap.size 30 [.int .i64 r, .int .i64 c, .bool d, .string s]) := by
    rw [hw2]
    exact Lib.hid (((VarAt.new w 30 [.int .i64 r, .int .i64 c, .bool d, .string s]).kept ((Below.refl _ _).alloc (Nat.le_refl _) _)).kept ((Below.refl _ _).alloc (Nat.le_refl _) _))
  have V1 : Hid (VarAt w2 (w.heap.size + 1) 25 [.int .i64 0, .string ⟨#[]⟩, .string ⟨#[]⟩]) := by
    rw [hw2]
    have := (VarAt.new (w.alloc (.cells #[.int .i64 r, .int .i64 c, .bool d, .string s] 30)) 25 [.int .i64 0, .string ⟨#[]⟩, .string ⟨#[]⟩]).kept ((Below.refl _ _).alloc (Nat.le_refl _) (.cells #[.int .i64 0, .int .i64 0, .bool false, .string ⟨#[]⟩] 30))
    simp only [World.size_alloc] at this
    exact Lib.hid this
  have V2 : Hid (VarAt w2 (w.heap.size + 1 + 1) 30 [.int .i64 0, .int .i64 0, .bool false, .string ⟨#[]⟩]) := by
    rw [hw2]
    have := VarAt.new ((w.alloc (.cells #[.int .i64 r, .int .i64 c, .bool d, .string s] 30)).alloc (.cells #[.int .i64 0, .string ⟨#[]⟩, .string ⟨#[]⟩] 25)) 30 [.int .i64 0, .int .i64 0, .bool false, .string ⟨#[]⟩]
    simp only [World.size_alloc] at this
    exact Lib.hid this
  have HG : Hid (BAt w2 g o b) := by
    rw [hw2]
    exact Lib.hid (((hg.kept ((Below.refl _ _).alloc (Nat.le_refl _) _)).kept ((Below.refl _ _).alloc (Nat.le_refl _) _)).kept ((Below.refl _ _).alloc (Nat.le_refl _) _))
  have HW2 := Lib.hid hw2
  clear hw2 hg
  cases d with
  | false =>
    go_enter Tryz.func91, Tryz.ntmps91
    go_upto_region 1 with fail
    rw [← HW2.out]
    clear HW2
    have c2 := VP.out.cell (i := 2) rfl
    go_upto_region 3 with fail
    clear c2
    obtain ⟨g0, g1, g2⟩ := HG.out
    have p0 := VP.out.cell (i := 0) rfl
    have p1 := VP.out.cell (i := 1) rfl
    have p2 := VP.out.cell (i := 2) rfl
    have p3 := VP.out.cell (i := 3) rfl
    have q0 := V1.out.cell (i := 0) rfl
    have q1 := V1.out.cell (i := 1) rfl
    have q2 := V1.out.cell (i := 2) rfl
    have f0 := V1.out.free 0
    have f1 := V1.out.free 1
    have f2 := V1.out.free 2
    obtain ⟨o0, k0⟩ := V1.out.set 0 (.int .i64 b.size)
    obtain ⟨o1, k1⟩ := o0.set 1 (.string b.premium)
    obtain ⟨o2, k2⟩ := o1.set 2 (.string b.cells)
    have G1 := grownBy_trans (grownBy_trans k0 k1) k2
    have VPx := VP.out.grown G1 (by simp)
    have V2x := V2.out.grown G1 (by simp)
    have r0 := VPx.cell (i := 0) rfl
    have r1 := VPx.cell (i := 1) rfl
    have r2 := VPx.cell (i := 2) rfl
    have r3 := VPx.cell (i := 3) rfl
    have t0 := V2x.cell (i := 0) rfl
    have t1 := V2x.cell (i := 1) rfl
    have t2 := V2x.cell (i := 2) rfl
    have t3 := V2x.cell (i := 3) rfl
    have u0 := V2x.free 0
    have u1 := V2x.free 1
    have u2 := V2x.free 2
    have u3 := V2x.free 3
    clear o0 o1 o2 k0 k1 k2 G1 VPx V2x
    go_region
    all_goals
      obtain ⟨x0, k0⟩ := V1.out.set 0 (.int .i64 b.size)
      obtain ⟨x1, k1⟩ := x0.set 1 (.string b.premium)
      obtain ⟨x2, k2⟩ := x1.set 2 (.string b.cells)
      have G1 := grownBy_trans (grownBy_trans k0 k1) k2
      have V2x := V2.out.grown G1 (by simp)
      obtain ⟨y0, j0⟩ := V2x.set 0 (.int .i64 r)
      obtain ⟨y1, j1⟩ := y0.set 1 (.int .i64 c)
      obtain ⟨y2, j2⟩ := y1.set 2 (.bool false)
      obtain ⟨y3, j3⟩ := y2.set 3 (.string s)
      have G2 := grownBy_trans (grownBy_trans (grownBy_trans j0 j1) j2) j3
      have x9 := x2.grown G2 (by simp)
      have hb8 := hb.grown G1 hb.size (fun q h => by cases h; omega)
      have hb9 := hb8.grown G2 (Nat.le_trans hb.size G1.size) (fun q h => by cases h; omega)
      have e0 := x9.cell (i := 0) rfl
      have e1 := x9.cell (i := 1) rfl
      have e2 := x9.cell (i := 2) rfl
      have e3 := y3.cell (i := 0) rfl
      have e4 := y3.cell (i := 1) rfl
      have e5 := y3.cell (i := 2) rfl
      have e6 := y3.cell (i := 3) rfl
      clear x0 x1 x2 x9 k0 k1 k2 G1 G2 V2x y0 y1 y2 y3 j0 j1 j2 j3
      go_wp2
      refine bodyPost_ret (v := .tuple #[.agg #[.int .i64 b.size, .string b.premium, .string b.cells], .agg #[.int .i64 r, .int .i64 c, .bool false, .string s]]) (by simp [results, Tryz.results91, go_sem, e0, e1, e2, e3, e4, e5, e6]) rfl ?_
      exact ⟨rfl, hb9.drew⟩
  | true =>
    go_enter Tryz.func91, Tryz.ntmps91
    go_upto_region 1 with fail
    rw [← HW2.out]
    clear HW2
    have c2 := VP.out.cell (i := 2) rfl
    have HT : Hid (∀ W, BAt W g o b → Calls Tryz.prog 186 #[.pointer (some ⟨g, o, none⟩)] W fun e w' => e = .returned (.agg #[.int .i64 b.turn.size, .string b.turn.premium, .string b.turn.cells]) ∧ Below W.heap.size W w') := Lib.hid (fun W h => l11Transpose_any b n g o W hb0 h)
    have HPT : Hid (∀ W, Calls Tryz.prog 79 #[.agg #[.int .i64 r, .int .i64 c, .bool true, .string s]] W fun e w' => e = .returned (.agg #[.int .i64 c, .int .i64 r, .bool false, .string s]) ∧ Below W.heap.size W w') := Lib.hid (fun W => l12Turn_any ⟨r, c, true, s⟩ W)
    go_upto_region 2 with fail
    clear c2
    have hd : Below w2.heap.size w2 w2.drew := (Below.refl _ _).drew
    replace VP := Lib.hid (VP.out.kept hd)
    replace V1 := Lib.hid (V1.out.kept hd)
    replace V2 := Lib.hid (V2.out.kept hd)
    replace HG := Lib.hid (HG.out.kept hd)
    replace hb := hb.trans (hd.mono hb.size)
    clear hd
    have p0 := VP.out.cell (i := 0) rfl
    have p1 := VP.out.cell (i := 1) rfl
    have p2 := VP.out.cell (i := 2) rfl
    have p3 := VP.out.cell (i := 3) rfl
    go_region_with
      ((first | (go_at_call 186; refine (HT.out _ HG.out).mono ?_) | (go_at_call 79; refine (HPT.out _).mono ?_)); rintro e wq ⟨rfl, hdq⟩; replace VP := Lib.hid (VP.out.kept hdq); replace V1 := Lib.hid (V1.out.kept hdq); replace V2 := Lib.hid (V2.out.kept hdq); replace HG := Lib.hid (HG.out.kept hdq); replace hb := hb.trans (hdq.mono hb.size); clear hdq p0 p1 p2 p3; (try clear q0 q1 q2 f0 f1 f2 t0 t1 t2 t3 u0 u1 u2 u3); have p0 := VP.out.cell (i := 0) rfl; have p1 := VP.out.cell (i := 1) rfl; have p2 := VP.out.cell (i := 2) rfl; have p3 := VP.out.cell (i := 3) rfl; have q0 := V1.out.cell (i := 0) rfl; have q1 := V1.out.cell (i := 1) rfl; have q2 := V1.out.cell (i := 2) rfl; have f0 := V1.out.free 0; have f1 := V1.out.free 1; have f2 := V1.out.free 2; have t0 := V2.out.cell (i := 0) rfl; have t1 := V2.out.cell (i := 1) rfl; have t2 := V2.out.cell (i := 2) rfl; have t3 := V2.out.cell (i := 3) rfl; have u0 := V2.out.free 0; have u1 := V2.out.free 1; have u2 := V2.out.free 2; have u3 := V2.out.free 3)
    all_goals
      obtain ⟨x0, k0⟩ := V1.out.set 0 (.int .i64 b.turn.size)
      obtain ⟨x1, k1⟩ := x0.set 1 (.string b.turn.premium)
      obtain ⟨x2, k2⟩ := x1.set 2 (.string b.turn.cells)
      have G1 := grownBy_trans (grownBy_trans k0 k1) k2
      have V2x := V2.out.grown G1 (by simp)
      obtain ⟨y0, j0⟩ := V2x.set 0 (.int .i64 c)
      obtain ⟨y1, j1⟩ := y0.set 1 (.int .i64 r)
      obtain ⟨y2, j2⟩ := y1.set 2 (.bool false)
      obtain ⟨y3, j3⟩ := y2.set 3 (.string s)
      have G2 := grownBy_trans (grownBy_trans (grownBy_trans j0 j1) j2) j3
      have x9 := x2.grown G2 (by simp)
      have hb8 := hb.grown G1 hb.size (fun q h => by cases h; omega)
      have hb9 := hb8.grown G2 (Nat.le_trans hb.size G1.size) (fun q h => by cases h; omega)
      have e0 := x9.cell (i := 0) rfl
      have e1 := x9.cell (i := 1) rfl
      have e2 := x9.cell (i := 2) rfl
      have e3 := y3.cell (i := 0) rfl
      have e4 := y3.cell (i := 1) rfl
      have e5 := y3.cell (i := 2) rfl
      have e6 := y3.cell (i := 3) rfl
      clear x0 x1 x2 x9 k0 k1 k2 G1 G2 V2x y0 y1 y2 y3 j0 j1 j2 j3
      go_wp2
      refine bodyPost_ret (v := .tuple #[.agg #[.int .i64 b.turn.size, .string b.turn.premium, .string b.turn.cells], .agg #[.int .i64 c, .int .i64 r, .bool false, .string s]]) (by simp [results, Tryz.results91, go_sem, e0, e1, e2, e3, e4, e5, e6]) rfl ?_
      exact ⟨rfl, hb9⟩
end Go.Proofs.YtjdcdhhbgijaoaaGreatDoor

namespace Go.Proofs.YtjdcdhhbgijaoaaGreatDoor
open Go.ChangeShapes Go.WideShapes Go.ChangeAt Go.RowKit Go.Sort

/-! ### Plain -/
theorem fitTo_succ {F : Fl} {R C : Int} {l : List UInt8} {k : Nat} (h : fitTo F R C l k = true) (h2 : F R (C + k) = 46 ∨ F R (C + k) = l.getD k 0) : fitTo F R C l (k + 1) = true := by
  unfold fitTo at h ⊢
  rw [List.range_succ, List.all_append, h, Bool.true_and]
  simp only [List.all_cons, List.all_nil, Bool.and_true, Bool.or_eq_true, beq_iff_eq]
  exact h2
theorem fitTo_no {F : Fl} {R C : Int} {l : List UInt8} {k n : Nat} (hk : k < n) (h1 : F R (C + k) ≠ 46) (h2 : F R (C + k) ≠ l.getD k 0) : fitTo F R C l n = false := by
  unfold fitTo
  rw [List.all_eq_false]
  refine ⟨k, List.mem_range.2 hk, ?_⟩
  rw [Bool.not_eq_true, Bool.or_eq_false_iff, beq_eq_false_iff_ne, beq_eq_false_iff_ne]
  exact ⟨h1, h2⟩
theorem freeTo_succ {F : Fl} {R C : Int} {k : Nat} : freeTo F R C (k + 1) = (freeTo F R C k || F R (C + k) == 46) := by
  unfold freeTo
  rw [List.range_succ, List.any_append]
  simp
theorem fits_in {F : Fl} {n R C : Int} {l : List UInt8} (h : (withinB R 0 (n - 1) && withinB C 0 (n - 1)) = false) : fitsF F n R C l = false := by
  unfold fitsF; rw [h]; rfl
theorem fits_long {F : Fl} {n R C : Int} {l : List UInt8} (h : ¬ C + l.length ≤ n) : fitsF F n R C l = false := by
  unfold fitsF; rw [decide_eq_false h]; simp
theorem fits_before {F : Fl} {n R C : Int} {l : List UInt8} (h : fullC (F R (C - 1)) = true) : fitsF F n R C l = false := by
  unfold fitsF; rw [h]; simp
theorem fits_behind {F : Fl} {n R C : Int} {l : List UInt8} (h : fullC (F R (C + l.length)) = true) : fitsF F n R C l = false := by
  unfold fitsF; rw [h]; simp
theorem fits_not {F : Fl} {n R C : Int} {l : List UInt8} (h : fitTo F R C l l.length = false) : fitsF F n R C l = false := by
  unfold fitsF; rw [h]; simp
theorem fits_yes {F : Fl} {n R C : Int} {l : List UInt8} (h0 : (withinB R 0 (n - 1) && withinB C 0 (n - 1)) = true) (h1 : C + l.length ≤ n) (h2 : fullC (F R (C - 1)) = false) (h3 : fullC (F R (C + l.length)) = false) (h4 : fitTo F R C l l.length = true) :
    fitsF F n R C l = freeTo F R C l.length := by
  unfold fitsF; rw [h0, decide_eq_true h1, h2, h3, h4]; rfl
theorem int_46 {c : UInt8} (h : ((c.toNat : Int) == 46) = true) : c = 46 := u8_46 (by simp at h; omega)
theorem int_not46 {c : UInt8} (h : ((c.toNat : Int) == 46) = false) : c ≠ 46 := fun e => by subst e; simp at h
theorem int_eq {c d : UInt8} (h : ((c.toNat : Int) != (d.toNat : Int)) = false) : c = d := UInt8.toNat_inj.1 (by simp at h; omega)
theorem int_ne {c d : UInt8} (h : ((c.toNat : Int) != (d.toNat : Int)) = true) : c ≠ d := fun e => by subst e; simp at h

theorem Drew.times (w : World) (n : Nat) : Drew w (w.drewN n) := ⟨n, rfl⟩
set_option maxRecDepth 100000 in
set_option maxHeartbeats 4000000 in
theorem l12Fits_any (f : Brd) (n : Nat) (row col : Int) (down : Bool) (s : ByteArray) (g o : Nat) (w : World) (hb0 : f.Good n) (hg : BAt w g o f) (hs : s.size ≤ 12) :
    Calls Tryz.prog 174 #[.pointer (some ⟨g, o, none⟩), .agg #[.int .i64 row, .int .i64 col, .bool down, .string s]] w fun e w' => e = .returned (.bool (fitsF f.cell f.size row col s.data.toList)) ∧ Below w.heap.size w w' := by
  have hlt := hg.lt
  have hn15 := hb0.hi
  have hl : s.data.toList.length = s.size := by simp
  have HSZ := Lib.hid hb0.size
  have hx0 : Below w.heap.size w (w.alloc (.cells #[.int .i64 row, .int .i64 col, .bool down, .string s] 30)) := (Below.refl _ _).alloc (Nat.le_refl _) _
  have V0 := Lib.hid (VarAt.new w 30 [.int .i64 row, .int .i64 col, .bool down, .string s])
  have HG := Lib.hid (hg.kept hx0)
  have HFU : Hid (∀ c' bv W, fullC (f.cell row c') = bv → BAt W g o f → Calls Tryz.prog 200 #[.pointer (some ⟨g, o, none⟩), .int .i64 row, .int .i64 c'] W fun e w' => e = .returned (.bool bv) ∧ Drew W w') := Lib.hid (fun c' bv W e h => by rw [← e]; exact l11Full_any f n row c' g o W hb0 h)
  have HAT : Hid (∀ c' W, f.inB row c' = true → BAt W g o f → Calls Tryz.prog 192 #[.pointer (some ⟨g, o, none⟩), .int .i64 row, .int .i64 c'] W fun e w' => e = .returned (.int .u8 ((f.cell row c').toNat : Int)) ∧ Drew W w') := Lib.hid (fun c' W hi h => l11At_any f n row c' g o W hb0 h hi)
  have HIB : Hid (∀ c', f.inB row c' = true ↔ (0 ≤ row ∧ row < n) ∧ 0 ≤ c' ∧ c' < n) := Lib.hid (fun c' => hb0.inB)
  have HIQ : Hid (f.inB row col = (withinB row 0 (f.size - 1) && withinB col 0 (f.size - 1))) := Lib.hid rfl
  have HCI : Hid (∀ bv W, f.inB row col = bv → BAt W g o f → Calls Tryz.prog 240 #[.pointer (some ⟨g, o, none⟩), .int .i64 row, .int .i64 col] W fun e w' => e = .returned (.bool bv) ∧ W = w') := Lib.hid (fun bv W e h => by rw [← e]; exact l11In_any f n row col g o W hb0 h)
  have HL := Lib.hid hl
  clear hg hb0 hl
  cases hi : f.inB row col with
  | false =>
    have HN : Hid (fitsF f.cell f.size row col s.data.toList = false) := Lib.hid (fits_in (HIQ.out.symm.trans hi))
    have HIN : Hid (∀ W, BAt W g o f → Calls Tryz.prog 240 #[.pointer (some ⟨g, o, none⟩), .int .i64 row, .int .i64 col] W fun e w' => e = .returned (.bool false) ∧ W = w') := Lib.hid (fun W h => HCI.out _ W hi h)
    have H1 : Hid True := Lib.hid trivial
    have H2 : Hid True := Lib.hid trivial
    clear hi
    generalize fitsF f.cell f.size row col s.data.toList = res at *
    go_enter Tryz.func174, Tryz.ntmps174
    go_upto_region 2 with fail
    generalize w.alloc (.cells #[.int .i64 row, .int .i64 col, .bool down, .string s] 30) = w1 at *
    obtain ⟨g0, g1, g2⟩ := HG.out
    rw [HSZ.out] at g0
    clear g1 g2
    have c0 := V0.out.cell (i := 0) rfl
    have c1 := V0.out.cell (i := 1) rfl
    go_quiet ((first | (go_at_call 240; with_reducible exact quiet_of_eq (HIN.out _ (HG.out.drew (Drew.times _ _)))) | (go_at_call 200; with_reducible exact quiet_of_drew (HFU.out _ _ _ (by first | exact H1.out | exact H2.out) (HG.out.drew (Drew.times _ _))))))
    go_wp2
    go_ret
    exact ⟨ret_bool HN.out.symm, (hx0.trans ((Drew.below ⟨_, rfl⟩ _).mono hx0.size))⟩
  | true =>
    have HIN : Hid (∀ W, BAt W g o f → Calls Tryz.prog 240 #[.pointer (some ⟨g, o, none⟩), .int .i64 row, .int .i64 col] W fun e w' => e = .returned (.bool true) ∧ W = w') := Lib.hid (fun W h => HCI.out _ W hi h)
    have HI0 := Lib.hid (HIQ.out.symm.trans hi)
    obtain ⟨⟨r0, r1⟩, k0, k1⟩ := (HIB.out col).1 hi
    clear hi
    have wr1 : IntKind.i64.wrap (col + (s.size : Int)) = col + s.size := IntWalk.i64_in _ (by omega)
    have wr2 : IntKind.i64.wrap (col - 1) = col - 1 := IntWalk.i64_in _ (by omega)
    by_cases hlen : col + s.size ≤ n
    · have hgt : ¬ (n : Int) < col + (s.size : Int) := by omega
      cases h1 : fullC (f.cell row (col - 1)) with
      | true =>
        have HN : Hid (fitsF f.cell f.size row col s.data.toList = false) := Lib.hid (fits_before h1)
        have H1 := Lib.hid h1
        have H2 : Hid True := Lib.hid trivial
        clear h1
        generalize fitsF f.cell f.size row col s.data.toList = res at *
        go_enter Tryz.func174, Tryz.ntmps174
        go_upto_region 2 with fail
        generalize w.alloc (.cells #[.int .i64 row, .int .i64 col, .bool down, .string s] 30) = w1 at *
        obtain ⟨g0, g1, g2⟩ := HG.out
        rw [HSZ.out] at g0
        clear g1 g2
        have c0 := V0.out.cell (i := 0) rfl
        have c1 := V0.out.cell (i := 1) rfl
        go_quiet ((first | (go_at_call 240; with_reducible exact quiet_of_eq (HIN.out _ (HG.out.drew (Drew.times _ _)))) | (go_at_call 200; with_reducible exact quiet_of_drew (HFU.out _ _ _ (by first | exact H1.out | exact H2.out) (HG.out.drew (Drew.times _ _))))))
        go_wp2
        go_ret
        exact ⟨ret_bool HN.out.symm, (hx0.trans ((Drew.below ⟨_, rfl⟩ _).mono hx0.size))⟩
      | false =>
        cases h2 : fullC (f.cell row (col + s.size)) with
        | true =>
          have HN : Hid (fitsF f.cell f.size row col s.data.toList = false) := Lib.hid (fits_behind (by rw [HL.out]; exact h2))
          have H1 := Lib.hid h1
          have H2 := Lib.hid h2
          clear h1 h2
          generalize fitsF f.cell f.size row col s.data.toList = res at *
          go_enter Tryz.func174, Tryz.ntmps174
          go_upto_region 2 with fail
          generalize w.alloc (.cells #[.int .i64 row, .int .i64 col, .bool down, .string s] 30) = w1 at *
          obtain ⟨g0, g1, g2⟩ := HG.out
          rw [HSZ.out] at g0
          clear g1 g2
          have c0 := V0.out.cell (i := 0) rfl
          have c1 := V0.out.cell (i := 1) rfl
          go_quiet ((first | (go_at_call 240; with_reducible exact quiet_of_eq (HIN.out _ (HG.out.drew (Drew.times _ _)))) | (go_at_call 200; with_reducible exact quiet_of_drew (HFU.out _ _ _ (by first | exact H1.out | exact H2.out) (HG.out.drew (Drew.times _ _))))))
          go_wp2
          go_ret
          exact ⟨ret_bool HN.out.symm, (hx0.trans ((Drew.below ⟨_, rfl⟩ _).mono hx0.size))⟩
        | false =>
          have HYES : Hid (fitTo f.cell row col s.data.toList s.size = true → fitsF f.cell f.size row col s.data.toList = freeTo f.cell row col s.size) := Lib.hid (fun h => by
            have := fits_yes HI0.out (l := s.data.toList) (by rw [HL.out, HSZ.out]; exact hlen) h1 (by rw [HL.out]; exact h2) (by rw [HL.out]; exact h)
            rwa [HL.out] at this)
          have HNOT : Hid (fitTo f.cell row col s.data.toList s.size = false → fitsF f.cell f.size row col s.data.toList = false) := Lib.hid (fun h => fits_not (by rw [HL.out]; exact h))
          have H1 := Lib.hid h1
          have H2 := Lib.hid h2
          clear h1 h2
          generalize fitsF f.cell f.size row col s.data.toList = res at *
          go_enter Tryz.func174, Tryz.ntmps174
          go_upto_region 2 with fail
          generalize w.alloc (.cells #[.int .i64 row, .int .i64 col, .bool down, .string s] 30) = w1 at *
          obtain ⟨g0, g1, g2⟩ := HG.out
          rw [HSZ.out] at g0
          clear g1 g2
          have c0 := V0.out.cell (i := 0) rfl
          have c1 := V0.out.cell (i := 1) rfl
          go_quiet ((first | (go_at_call 240; with_reducible exact quiet_of_eq (HIN.out _ (HG.out.drew (Drew.times _ _)))) | (go_at_call 200; with_reducible exact quiet_of_drew (HFU.out _ _ _ (by first | exact H1.out | exact H2.out) (HG.out.drew (Drew.times _ _))))))
          replace HG := Lib.hid (HG.out.drew ⟨nq, rfl⟩)
          have hd := Drew.below (a := w1) ⟨nq, rfl⟩ w1.heap.size
          have hb := hx0.trans (hd.mono hx0.size)
          replace V0 := Lib.hid (V0.out.kept hd)
          clear c0 c1 g0 hd hx0 wr1 wr2 hgt
          generalize w1.drewN nq = w2 at *
          have c3 := V0.out.cell (i := 3) rfl
          go_wp2_with fail
          go_loopw [6, 7] (fun fv iv wr => ∃ k : Nat, k ≤ s.size ∧ iv = .int .i64 k ∧ fv = .bool (freeTo f.cell row col k) ∧ Hid (fitTo f.cell row col s.data.toList k = true) ∧ Hid (BAt wr g o f) ∧ Hid (VarAt wr w.heap.size 30 [.int .i64 row, .int .i64 col, .bool down, .string s]) ∧ Below w.heap.size w wr) (fun _ iv _ => s.size - (intOf iv).toNat)
          case atStart => exact ⟨0, Nat.zero_le _, rfl, rfl, Lib.hid rfl, HG, V0, hb⟩
          case round =>
            clear HG V0 hb c3
            obtain ⟨k, hk, rfl, rfl, HF, HG, V0, hb⟩ := hrel
            have c0 := V0.out.cell (i := 0) rfl
            have c1 := V0.out.cell (i := 1) rfl
            have c3 := V0.out.cell (i := 3) rfl
            by_cases hk2 : k < s.size
            · have hin : f.inB row (col + k) = true := (HIB.out _).2 (by omega)
              have HFS := Lib.hid (freeTo_succ (F := f.cell) (R := row) (C := col) (k := k))
              have HGD := Lib.hid (getD_byt hk2)
              cases e1 : (((f.cell row (col + k)).toNat : Int) == 46) with
              | true =>
                have HF2 : Hid (fitTo f.cell row col s.data.toList (k + 1) = true) := Lib.hid (fitTo_succ HF.out (.inl (int_46 e1)))
                have HFE : Hid (freeTo f.cell row col (k + 1) = true) := Lib.hid (by rw [HFS.out, int_46 e1]; simp)
                go_wp2_with fail
                refine (HAT.out _ _ hin HG.out).mono ?_
                rintro e w3 ⟨rfl, hdq⟩
                have hd := hdq.bels
                clear hdq
                replace hb := hb.trans (hd.mono hb.size)
                replace c0 := cell_kept c0 hd
                replace c1 := cell_kept c1 hd
                replace c3 := cell_kept c3 hd
                replace V0 := Lib.hid (V0.out.kept hd)
                replace HG := Lib.hid (HG.out.kept hd)
                clear hd
                go_wp2
                go_roundw
                case rel => exact ⟨k + 1, by omega, by go_num, by rw [HFE.out], HF2, HG, V0, hb⟩
                case measure => simp [intOf]; omega
              | false =>
                have HFE : Hid (freeTo f.cell row col (k + 1) = freeTo f.cell row col k) := Lib.hid (by
                  rw [HFS.out, show (f.cell row (col + k) == 46) = false from beq_eq_false_iff_ne.2 (int_not46 e1), Bool.or_false])
                cases e2 : (((f.cell row (col + k)).toNat : Int) != (s[k].toNat : Int)) with
                | true =>
                  have HN : Hid (res = false) := Lib.hid (HNOT.out (fitTo_no hk2 (int_not46 e1) (by rw [HGD.out]; exact int_ne e2)))
                  go_wp2_with fail
                  refine (HAT.out _ _ hin HG.out).mono ?_
                  rintro e w3 ⟨rfl, hdq⟩
                  have hd := hdq.bels
                  clear hdq
                  replace hb := hb.trans (hd.mono hb.size)
                  replace c0 := cell_kept c0 hd
                  replace c1 := cell_kept c1 hd
                  replace c3 := cell_kept c3 hd
                  replace V0 := Lib.hid (V0.out.kept hd)
                  replace HG := Lib.hid (HG.out.kept hd)
                  clear hd
                  go_wp2
                  go_ret
                  exact ⟨ret_bool HN.out.symm, hb⟩
                | false =>
                  have HF2 : Hid (fitTo f.cell row col s.data.toList (k + 1) = true) := Lib.hid (fitTo_succ HF.out (.inr (by rw [HGD.out]; exact int_eq e2)))
                  go_wp2_with fail
                  refine (HAT.out _ _ hin HG.out).mono ?_
                  rintro e w3 ⟨rfl, hdq⟩
                  have hd := hdq.bels
                  clear hdq
                  replace hb := hb.trans (hd.mono hb.size)
                  replace c0 := cell_kept c0 hd
                  replace c1 := cell_kept c1 hd
                  replace c3 := cell_kept c3 hd
                  replace V0 := Lib.hid (V0.out.kept hd)
                  replace HG := Lib.hid (HG.out.kept hd)
                  clear hd
                  go_wp2
                  go_roundw
                  case rel => exact ⟨k + 1, by omega, by go_num, by rw [HFE.out], HF2, HG, V0, hb⟩
                  case measure => simp [intOf]; omega
            · obtain rfl : k = s.size := by omega
              have HN := Lib.hid (HYES.out HF.out)
              go_wp2
              go_ret
              exact ⟨ret_bool HN.out.symm, hb⟩
    · have HN : Hid (fitsF f.cell f.size row col s.data.toList = false) := Lib.hid (fits_long (by rw [HL.out, HSZ.out]; exact hlen))
      have H1 : Hid True := Lib.hid trivial
      have H2 : Hid True := Lib.hid trivial
      have hlen2 : (n : Int) < col + s.size := by omega
      generalize fitsF f.cell f.size row col s.data.toList = res at *
      go_enter Tryz.func174, Tryz.ntmps174
      go_upto_region 2 with fail
      generalize w.alloc (.cells #[.int .i64 row, .int .i64 col, .bool down, .string s] 30) = w1 at *
      obtain ⟨g0, g1, g2⟩ := HG.out
      rw [HSZ.out] at g0
      clear g1 g2
      have c0 := V0.out.cell (i := 0) rfl
      have c1 := V0.out.cell (i := 1) rfl
      go_quiet ((first | (go_at_call 240; with_reducible exact quiet_of_eq (HIN.out _ (HG.out.drew (Drew.times _ _)))) | (go_at_call 200; with_reducible exact quiet_of_drew (HFU.out _ _ _ (by first | exact H1.out | exact H2.out) (HG.out.drew (Drew.times _ _))))))
      go_wp2
      go_ret
      exact ⟨ret_bool HN.out.symm, (hx0.trans ((Drew.below ⟨_, rfl⟩ _).mono hx0.size))⟩
end Go.Proofs.YtjdcdhhbgijaoaaGreatDoor

namespace Go.Proofs.YtjdcdhhbgijaoaaGreatDoor
open Go.ChangeShapes Go.WideShapes Go.ChangeAt Go.RowKit Go.Sort

/-! ### Plain: letters along a column, by their places -/
theorem upL_at {F : Fl} {c : Int} : ∀ (k : Nat) (r : Int) (j : Nat) (h : j < (upL F c k r).length), (upL F c k r)[j] = F (r - j) c ∧ fullC (F (r - j) c) = true
  | 0, _, _, h => by simp [upL] at h
  | k + 1, r, j, h => by
    cases hf : fullC (F r c) with
    | false => rw [upL_stop hf] at h; simp at h
    | true =>
      have e := upL_full (k := k) hf
      cases j with
      | zero =>
        simp only [e, List.getElem_cons_zero]
        rw [show r - ((0 : Nat) : Int) = r from by omega]
        exact ⟨rfl, hf⟩
      | succ j =>
        have h2 : j < (upL F c k (r - 1)).length := by rw [e] at h; simpa using h
        have := upL_at k (r - 1) j h2
        simp only [e, List.getElem_cons_succ]
        rw [show r - ((j + 1 : Nat) : Int) = r - 1 - (j : Int) from by omega]
        exact this
theorem dnL_at {F : Fl} {c : Int} : ∀ (k : Nat) (r : Int) (j : Nat) (h : j < (dnL F c k r).length), (dnL F c k r)[j] = F (r + j) c ∧ fullC (F (r + j) c) = true
  | 0, _, _, h => by simp [dnL] at h
  | k + 1, r, j, h => by
    cases hf : fullC (F r c) with
    | false => rw [dnL_stop hf] at h; simp at h
    | true =>
      have e := dnL_full (k := k) hf
      cases j with
      | zero =>
        simp only [e, List.getElem_cons_zero]
        rw [show r + ((0 : Nat) : Int) = r from by omega]
        exact ⟨rfl, hf⟩
      | succ j =>
        have h2 : j < (dnL F c k (r + 1)).length := by rw [e] at h; simpa using h
        have := dnL_at k (r + 1) j h2
        simp only [e, List.getElem_cons_succ]
        rw [show r + ((j + 1 : Nat) : Int) = r + 1 + (j : Int) from by omega]
        exact this
theorem upL_end {F : Fl} {c : Int} : ∀ (k : Nat) (r : Int), (upL F c k r).length < k → fullC (F (r - (upL F c k r).length) c) = false
  | 0, _, h => by simp at h
  | k + 1, r, h => by
    cases hf : fullC (F r c) with
    | false => rw [upL_stop hf]; simpa using hf
    | true =>
      have e := upL_full (k := k) hf
      rw [e] at h ⊢
      simp only [List.length_cons] at h ⊢
      have := upL_end (F := F) (c := c) k (r - 1) (by omega)
      rwa [show r - (((upL F c k (r - 1)).length + 1 : Nat) : Int) = r - 1 - ((upL F c k (r - 1)).length : Int) from by omega]
theorem dnL_end {F : Fl} {c : Int} : ∀ (k : Nat) (r : Int), (dnL F c k r).length < k → fullC (F (r + (dnL F c k r).length) c) = false
  | 0, _, h => by simp at h
  | k + 1, r, h => by
    cases hf : fullC (F r c) with
    | false => rw [dnL_stop hf]; simpa using hf
    | true =>
      have e := dnL_full (k := k) hf
      rw [e] at h ⊢
      simp only [List.length_cons] at h ⊢
      have := dnL_end (F := F) (c := c) k (r + 1) (by omega)
      rwa [show r + (((dnL F c k (r + 1)).length + 1 : Nat) : Int) = r + 1 + ((dnL F c k (r + 1)).length : Int) from by omega]
/-- on a valid board there are at most as many as there are rows -/
theorem Brd.Good.up_le {b : Brd} {n : Nat} (h : b.Good n) {c r : Int} (k : Nat) (h0 : 0 ≤ r + 1) : ((upL b.cell c k r).length : Int) ≤ r + 1 := by
  by_cases hl : 0 < (upL b.cell c k r).length
  · have h1 := (upL_at (F := b.cell) (c := c) k r ((upL b.cell c k r).length - 1) (by omega)).2
    have h2 := h.inB.1 (h.full_in h1)
    omega
  · omega
theorem Brd.Good.dn_le {b : Brd} {n : Nat} (h : b.Good n) {c r : Int} (k : Nat) (h0 : r ≤ n) : (r : Int) + (dnL b.cell c k r).length ≤ n := by
  by_cases hl : 0 < (dnL b.cell c k r).length
  · have h1 := (dnL_at (F := b.cell) (c := c) k r ((dnL b.cell c k r).length - 1) (by omega)).2
    have h2 := h.inB.1 (h.full_in h1)
    omega
  · omega
/-- a word across, place by place -/
theorem crossW_lo {F : Fl} {R C : Int} {x : UInt8} {j : Nat} (h : j < (upL F C 16 (R - 1)).length) (h2 : j < (crossW F R C x).length) : (crossW F R C x)[j] = F (R - (upL F C 16 (R - 1)).length + j) C ∧ fullC (F (R - (upL F C 16 (R - 1)).length + j) C) = true := by
  have h1 := upL_at (F := F) (c := C) 16 (R - 1) ((upL F C 16 (R - 1)).length - 1 - j) (by omega)
  have e : R - 1 - (((upL F C 16 (R - 1)).length - 1 - j : Nat) : Int) = R - (upL F C 16 (R - 1)).length + j := by omega
  rw [e] at h1
  refine ⟨?_, h1.2⟩
  rw [← h1.1]
  simp only [crossW]
  rw [List.getElem_append_left (by simpa using h), List.getElem_reverse]
theorem crossW_mid {F : Fl} {R C : Int} {x : UInt8} (h2 : (upL F C 16 (R - 1)).length < (crossW F R C x).length) : (crossW F R C x)[(upL F C 16 (R - 1)).length] = x := by
  simp only [crossW]
  rw [List.getElem_append_right (by simp)]
  simp
theorem crossW_hi {F : Fl} {R C : Int} {x : UInt8} {j : Nat} (h : (upL F C 16 (R - 1)).length < j) (h2 : j < (crossW F R C x).length) : (crossW F R C x)[j] = F (R - (upL F C 16 (R - 1)).length + j) C ∧ fullC (F (R - (upL F C 16 (R - 1)).length + j) C) = true := by
  have hl : (crossW F R C x).length = (upL F C 16 (R - 1)).length + 1 + (dnL F C 16 (R + 1)).length := by
    unfold crossW
    simp only [List.length_append, List.length_reverse, List.length_cons]
    omega
  have h1 := dnL_at (F := F) (c := C) 16 (R + 1) (j - (upL F C 16 (R - 1)).length - 1) (by omega)
  have e : R + 1 + ((j - (upL F C 16 (R - 1)).length - 1 : Nat) : Int) = R - (upL F C 16 (R - 1)).length + j := by omega
  rw [e] at h1
  refine ⟨?_, h1.2⟩
  rw [← h1.1]
  simp only [crossW]
  rw [List.getElem_append_right (by simp; omega), List.getElem_cons]
  rw [dif_neg (by simp; omega)]
  congr 1
  simp
theorem crossW_length (F : Fl) (R C : Int) (x : UInt8) : (crossW F R C x).length = (upL F C 16 (R - 1)).length + 1 + (dnL F C 16 (R + 1)).length := by
  unfold crossW
  simp only [List.length_append, List.length_reverse, List.length_cons]
  omega
def N64.enc (i : Nat) : List Value := [.int .i64 (i : Int)]
theorem N64.enc_len (i : Nat) : (N64.enc i).length = 1 := rfl
theorem n64_one (i : Nat) : ∀ u ∈ N64.enc i, u.oneCell' = true := by
  intro u hu
  simp only [N64.enc, List.mem_cons, List.not_mem_nil, or_false] at hu
  rw [hu]; rfl
theorem new_n64 (w : World) (i : Nat) (t : TypeId) : ∀ j u, (N64.enc i)[j]? = some u → (w.alloc (.cells #[.int .i64 (i : Int)] t)).cell? ((⟨w.heap.size, 0, none⟩ : Addr).add j) = some u := by
  intro j u hu
  rw [Go.Addr.add_lit, Nat.zero_add]
  match j, hu with
  | 0, hu =>
    simp only [N64.enc, List.getElem?_cons_zero, Option.some.injEq] at hu
    subst hu
    exact cell_new0 w _ t rfl
  | j + 1, hu => simp [N64.enc] at hu
/-- numbers in a row of the call's own -/
def NatsPost (w : World) (xs : List Nat) (e : Ending) (w' : World) : Prop :=
  ∃ g cap, e = .returned (.slice (some ⟨g, 0, none⟩) xs.length cap) ∧ w'.ownsRow w.heap.size 2 1 (.slice (some ⟨g, 0, none⟩) xs.length cap) xs.length (xs.flatMap N64.enc) ∧ Below w.heap.size w w'

set_option maxRecDepth 100000 in
set_option maxHeartbeats 4000000 in
theorem l12Fresh_any (f : Brd) (n : Nat) (row col : Int) (down : Bool) (s : ByteArray) (g o : Nat) (w : World) (hb0 : f.Good n) (hg : BAt w g o f) (hs : s.size ≤ 12) (hr0 : 0 ≤ row) (hr1 : row < n) (hc0 : 0 ≤ col) (hc1 : col + s.size ≤ n) :
    Calls Tryz.prog 98 #[.pointer (some ⟨g, o, none⟩), .agg #[.int .i64 row, .int .i64 col, .bool down, .string s]] w (NatsPost w (freshL f.cell row col s.size)) := by
  obtain ⟨i0, hi0, hi1, hi2, hi3⟩ := info_parts infoI64
  have hlt := hg.lt
  have hn15 := hb0.hi
  obtain ⟨w2, hw2⟩ : ∃ w2, w2 = (w.alloc (.cells #[.int .i64 row, .int .i64 col, .bool down, .string s] 30)).alloc (.cells #[] 2) := ⟨_, rfl⟩
  have hb : Below w.heap.size w w2 := by rw [hw2]; exact ((Below.refl _ _).alloc (Nat.le_refl _) _).alloc (by simp) _
  have V0 : Hid (VarAt w2 w.heap.size 30 [.int .i64 row, .int .i64 col, .bool down, .string s]) := by
    rw [hw2]
    exact Lib.hid ((VarAt.new w 30 [.int .i64 row, .int .i64 col, .bool down, .string s]).kept ((Below.refl _ _).alloc (Nat.le_refl _) _))
  have HG : Hid (BAt w2 g o f) := by
    rw [hw2]
    exact Lib.hid ((hg.kept ((Below.refl _ _).alloc (Nat.le_refl _) _)).kept ((Below.refl _ _).alloc (Nat.le_refl _) _))
  have HO : Hid (w2.ownsRow (w.heap.size + 1) 2 1 (.slice (some ⟨w.heap.size + 1, 0, none⟩) 0 0) 0 []) := by
    rw [hw2]
    have := World.ownsRow_made (base := w.heap.size + 1) (e := 2) (size := 1) (w.alloc (.cells #[.int .i64 row, .int .i64 col, .bool down, .string s] 30)) #[] 0 (by simp) (by unfold maxLen; omega) rfl
    simp only [World.size_alloc] at this
    exact Lib.hid this
  have HAT : Hid (∀ c' W, f.inB row c' = true → BAt W g o f → Calls Tryz.prog 192 #[.pointer (some ⟨g, o, none⟩), .int .i64 row, .int .i64 c'] W fun e w' => e = .returned (.int .u8 ((f.cell row c').toNat : Int)) ∧ Drew W w') := Lib.hid (fun c' W hi h => l11At_any f n row c' g o W hb0 h hi)
  have HIB : Hid (∀ c', f.inB row c' = true ↔ (0 ≤ row ∧ row < n) ∧ 0 ≤ c' ∧ c' < n) := Lib.hid (fun c' => hb0.inB)
  have HFL := Lib.hid (freshL_len f.cell row col)
  have HW2 := Lib.hid hw2
  clear hw2 hg hb0
  go_enter Tryz.func98, Tryz.ntmps98
  go_wp2_with fail
  rw [← HW2.out]
  clear HW2
  go_loopw [5, 6] (fun ov iv wr => ∃ (k g1 cap : Nat), k ≤ s.size ∧ iv = .int .i64 k ∧ ov = .slice (some ⟨g1, 0, none⟩) (freshL f.cell row col k).length cap ∧ Hid (wr.ownsRow (w.heap.size + 1) 2 1 (.slice (some ⟨g1, 0, none⟩) (freshL f.cell row col k).length cap) (freshL f.cell row col k).length ((freshL f.cell row col k).flatMap N64.enc)) ∧ Hid (BAt wr g o f) ∧ Hid (VarAt wr w.heap.size 30 [.int .i64 row, .int .i64 col, .bool down, .string s]) ∧ Below w.heap.size w wr) (fun _ iv _ => s.size - (intOf iv).toNat)
  case atStart => exact ⟨0, _, 0, Nat.zero_le _, rfl, rfl, HO, HG, V0, hb⟩
  case round =>
    clear HO HG V0 hb
    obtain ⟨k, g1, cap, hk, rfl, rfl, HO, HG, V0, hb⟩ := hrel
    have HFS := Lib.hid (freshL_succ f.cell row col k)
    have hfl := HFL.out k
    have c0 := V0.out.cell (i := 0) rfl
    have c1 := V0.out.cell (i := 1) rfl
    have c3 := V0.out.cell (i := 3) rfl
    by_cases hk2 : k < s.size
    · have hin : f.inB row (col + k) = true := (HIB.out _).2 (by omega)
      cases e1 : (((f.cell row (col + k)).toNat : Int) == 46) with
      | true =>
        have HFE : Hid (freshL f.cell row col (k + 1) = freshL f.cell row col k ++ [k]) := Lib.hid (by rw [HFS.out, int_46 e1]; rfl)
        generalize freshL f.cell row col k = fr at *
        generalize hfr : fr.length = m at *
        go_wp2_with fail
        refine (HAT.out _ _ hin HG.out).mono ?_
        rintro e wq ⟨rfl, hdq⟩
        have hd := hdq.bels
        clear hdq c0 c1 c3
        replace hb := hb.trans (hd.mono hb.size)
        replace HO := Lib.hid (own_below HO.out hd)
        replace V0 := Lib.hid (V0.out.kept hd)
        replace HG := Lib.hid (HG.out.kept hd)
        clear hd
        have hx : Below wq.heap.size wq (wq.alloc (.cells #[.int .i64 (k : Int)] 2)) := (Below.refl _ _).alloc (Nat.le_refl _) _
        have KN := Lib.hid (new_n64 wq k 2)
        have hz2 := V0.out.lt
        replace hb := hb.trans (hx.mono hb.size)
        replace HO := Lib.hid (own_below HO.out hx)
        replace V0 := Lib.hid (V0.out.kept hx)
        replace HG := Lib.hid (HG.out.kept hx)
        clear hx
        go_wp2_with (at_builtin; go_must (refine wpList_append_lies _ rfl (.tmp 24) (.tmp 26) 42 rfl (w.heap.size + 1) 2 i0 _ 1 8 Tryz.underlying42 hi0 hi1 hi2 hi3 rfl (by decide) _ m (fr.flatMap N64.enc) (by rfl) HO.out ⟨wq.heap.size, 0, none⟩ 1 1 (N64.enc k) (by rfl) rfl KN.out (n64_one k) (by decide) ?c1 ?c2 ?c3 _ rfl ?_))
        case c1 => unfold maxLen; omega
        case c2 => omega
        case c3 => (first | omega | (simp only [World.size_alloc]; omega))
        intro g7 cap7 w7 hown hgr hwh hlt7
        have hb7 := hb.grown hgr hb.size (fun q e => by have := (HO.out.lt q e).1; omega)
        have HLE : Hid ((freshL f.cell row col (k + 1)).length = m + 1) := Lib.hid (by rw [HFE.out]; simp [hfr])
        have HO7 : Hid (w7.ownsRow (w.heap.size + 1) 2 1 (.slice (some ⟨g7, 0, none⟩) (freshL f.cell row col (k + 1)).length cap7) (freshL f.cell row col (k + 1)).length ((freshL f.cell row col (k + 1)).flatMap N64.enc)) := Lib.hid (by
          rw [HLE.out, HFE.out, snoc_flat N64.enc]; exact hown)
        have V7 := Lib.hid (V0.out.grown hgr (own_ne HO.out (by omega)))
        have HG7 := Lib.hid (HG.out.grown hgr (own_ne HO.out (by omega)))
        clear hown hgr hwh KN HO hb V0 HG
        go_wp2
        go_roundw
        case rel => exact ⟨k + 1, g7, cap7, by omega, by go_num, by rw [HLE.out], HO7, HG7, V7, hb7⟩
        case measure => simp [intOf]; omega
      | false =>
        have HFE : Hid (freshL f.cell row col (k + 1) = freshL f.cell row col k) := Lib.hid (by
          rw [HFS.out, show (f.cell row (col + k) == 46) = false from beq_eq_false_iff_ne.2 (int_not46 e1)]; simp)
        have HO2 : Hid (wr.ownsRow (w.heap.size + 1) 2 1 (.slice (some ⟨g1, 0, none⟩) (freshL f.cell row col (k + 1)).length cap) (freshL f.cell row col (k + 1)).length ((freshL f.cell row col (k + 1)).flatMap N64.enc)) := Lib.hid (by rw [HFE.out]; exact HO.out)
        go_wp2_with fail
        refine (HAT.out _ _ hin HG.out).mono ?_
        rintro e wq ⟨rfl, hdq⟩
        have hd := hdq.bels
        clear hdq c0 c1 c3 HO
        replace hb := hb.trans (hd.mono hb.size)
        replace HO2 := Lib.hid (own_below HO2.out hd)
        replace V0 := Lib.hid (V0.out.kept hd)
        replace HG := Lib.hid (HG.out.kept hd)
        clear hd
        go_wp2
        go_roundw
        case rel => exact ⟨k + 1, g1, cap, by omega, by go_num, by rw [HFE.out], HO2, HG, V0, hb⟩
        case measure => simp [intOf]; omega
    · obtain rfl : k = s.size := by omega
      go_wp2
      go_ret
      exact ⟨g1, cap, rfl, own_mono HO.out (by omega), hb⟩
end Go.Proofs.YtjdcdhhbgijaoaaGreatDoor
