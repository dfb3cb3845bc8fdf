/- Contracts: the reference's plays: placed words, plays turned over, boards and plays seen across. For valid boards. -/
import Derived.Test.YtpkadgibfmjmcaaGreatDoorPlaP
import Derived.Test.YtpkadgibfmjmcaaGreatDoorBrD
namespace Go.Proofs.YtpkadgibfmjmcaaGreatDoor
open Go.ChangeShapes Go.WideShapes Go.ChangeAt Go.RowKit Go.Sort

/-! ### Plain -/
theorem placed_no {s : ByteArray} {k : Nat} (h : k < s.size) (hp : letB (s[k].toNat : Int) = false) : placedL s.data.toList = false := by
  unfold placedL
  rw [all_get (p := fun c => letB c.toNat) h hp, Bool.and_false]
theorem placed_end {s : ByteArray} {k : Nat} (hk : s.size ≤ k) (h : upTo letB s k) : placedL s.data.toList = withinB s.size 1 12 := by
  unfold placedL withinB
  rw [all_end (p := fun c => letB c.toNat) hk h, Bool.and_true]
  have hl : s.data.toList.length = s.size := by simp
  rw [hl]
  congr 1
  · rw [Bool.eq_iff_iff, decide_eq_true_iff, decide_eq_true_iff]; omega
  · rw [Bool.eq_iff_iff, decide_eq_true_iff, decide_eq_true_iff]; omega
theorem main_short {s : ByteArray} (h : ¬ 1 < s.size) : mainL s.data.toList = false := by
  unfold mainL
  have hl : s.data.toList.length = s.size := by simp
  rw [hl, decide_eq_false (by omega)]; rfl
theorem main_long {s : ByteArray} (h : 1 < s.size) : mainL s.data.toList = placedL s.data.toList := by
  unfold mainL
  have hl : s.data.toList.length = s.size := by simp
  rw [hl, decide_eq_true (by omega)]; rfl
theorem letB_small {c : Int} (h : smallB c = true) : letB c = true := by unfold letB; rw [h]; rfl
theorem letB_cap {c : Int} (h : smallB c = false) : letB c = capB c := by unfold letB; rw [h]; rfl

set_option maxHeartbeats 2000000 in
theorem l03Placed_any (s : ByteArray) (w : World) (hs : s.size ≤ 9223372036854775807) : Calls Tryz.prog 153 #[.string s] w fun e w' => e = .returned (.bool (placedL s.data.toList)) ∧ w = w' := by
  have HNO := Lib.hid (fun k (h : k < s.size) => placed_no (s := s) (k := k) h)
  have HEND := Lib.hid (fun k (h : s.size ≤ k) => placed_end (s := s) (k := k) h)
  generalize placedL s.data.toList = res at *
  go_enter Tryz.func153, Tryz.ntmps153
  go_wp2
  go_loop [3] (fun i => ∃ k : Nat, k ≤ s.size ∧ i = .int .i64 k ∧ Hid (upTo letB s k)) (fun i => s.size - (intOf i).toNat)
  case atStart => exact ⟨0, Nat.zero_le _, rfl, Lib.hid (upTo.zero _ _)⟩
  case round =>
    obtain ⟨k, hk, rfl, HA⟩ := hrel
    by_cases hlt : k < s.size
    · cases h1 : smallB (s[k].toNat : Int) with
      | true =>
        have HN : Hid (upTo letB s (k + 1)) := Lib.hid (all_step hlt HA.out (letB_small h1))
        go_wp2_with fail
        refine (l01Small_any _ _).mono ?_
        rintro e w' ⟨rfl, rfl⟩
        rw [h1]
        clear h1
        go_wp2
        go_round
        case rel => exact ⟨k + 1, by omega, by go_num, HN⟩
        case measure => simp [intOf]; omega
      | false =>
        cases h2 : capB (s[k].toNat : Int) with
        | true =>
          have HN : Hid (upTo letB s (k + 1)) := Lib.hid (all_step hlt HA.out ((letB_cap h1).trans h2))
          go_wp2_with fail
          refine (l01Small_any _ _).mono ?_
          rintro e w' ⟨rfl, rfl⟩
          rw [h1]
          clear h1
          go_wp2_with fail
          refine (l03Capital_any _ _).mono ?_
          rintro e w' ⟨rfl, rfl⟩
          rw [h2]
          clear h2
          go_wp2
          go_round
          case rel => exact ⟨k + 1, by omega, by go_num, HN⟩
          case measure => simp [intOf]; omega
        | false =>
          have HN : Hid (res = false) := Lib.hid (HNO.out k hlt ((letB_cap h1).trans h2))
          go_wp2_with fail
          refine (l01Small_any _ _).mono ?_
          rintro e w' ⟨rfl, rfl⟩
          rw [h1]
          clear h1
          go_wp2_with fail
          refine (l03Capital_any _ _).mono ?_
          rintro e w' ⟨rfl, rfl⟩
          rw [h2]
          clear h2
          go_wp2
          go_ret
          exact ⟨ret_bool HN.out.symm, rfl⟩
    · have HN : Hid (res = withinB s.size 1 12) := Lib.hid (HEND.out k (by omega) HA.out)
      go_wp2_with fail
      refine (l00In_any _ _ _ _).mono ?_
      rintro e w' ⟨rfl, rfl⟩
      go_wp2
      go_ret
      exact ⟨ret_bool HN.out.symm, rfl⟩
theorem l12Word_any (s : ByteArray) (w : World) (hs : s.size ≤ 9223372036854775807) : Calls Tryz.prog 90 #[.string s] w fun e w' => e = .returned (.bool (mainL s.data.toList)) ∧ w = w' := by
  by_cases h1 : 1 < s.size
  · have HN := Lib.hid (main_long h1)
    go_enter Tryz.func90, Tryz.ntmps90
    go_wp2_with fail
    refine (l03Placed_any s _ hs).mono ?_
    rintro e w' ⟨rfl, rfl⟩
    go_wp2
    go_ret
    exact ⟨ret_bool HN.out.symm, rfl⟩
  · have HN := Lib.hid (main_short h1)
    go_enter Tryz.func90, Tryz.ntmps90
    go_wp2
    go_ret
    exact ⟨ret_bool HN.out.symm, rfl⟩
set_option maxHeartbeats 1000000 in
theorem l12Turn_any (p : Ply) (w : World) : Calls Tryz.prog 93 #[.agg #[.int .i64 p.row, .int .i64 p.col, .bool p.down, .string p.word]] w fun e w' => e = .returned (.agg #[.int .i64 p.col, .int .i64 p.row, .bool (!p.down), .string p.word]) ∧ Below w.heap.size w w' := by
  obtain ⟨r, c, d, s⟩ := p
  cases d
  · go_enter Tryz.func93, Tryz.ntmps93
    go_wp2
    go_returns
    exact ⟨rfl, by go_grown⟩
  · go_enter Tryz.func93, Tryz.ntmps93
    go_wp2
    go_returns
    exact ⟨rfl, by go_grown⟩
/-- a board and a play on it, seen across -/
def flatV (b : Brd) (p : Ply) : Value := .tuple #[.agg #[.int .i64 (b.flat p.down).size, .string (b.flat p.down).premium, .string (b.flat p.down).cells], .agg #[.int .i64 p.flat.row, .int .i64 p.flat.col, .bool p.flat.down, .string p.word]]
set_option maxRecDepth 100000 in
set_option maxHeartbeats 4000000 in
theorem l12Flat_any (b : Brd) (p : Ply) (n g o : Nat) (w : World) (hb0 : b.Good n) (hg : BAt w g o b) :
    Calls Tryz.prog 47 #[.pointer (some ⟨g, o, none⟩), .agg #[.int .i64 p.row, .int .i64 p.col, .bool p.down, .string p.word]] w fun e w' => e = .returned (flatV b p) ∧ Below w.heap.size w w' := by
  obtain ⟨r, c, d, s⟩ := p
  have hlt := hg.lt
  obtain ⟨w2, hw2⟩ : ∃ w2, w2 = ((w.alloc (.cells #[.int .i64 r, .int .i64 c, .bool d, .string s] 38)).alloc (.cells #[.int .i64 0, .string ⟨#[]⟩, .string ⟨#[]⟩] 36)).alloc (.cells #[.int .i64 0, .int .i64 0, .bool false, .string ⟨#[]⟩] 38) := ⟨_, rfl⟩
  have hb : Below w.heap.size w w2 := by rw [hw2]; exact (((Below.refl _ _).alloc (Nat.le_refl _) _).alloc (by simp) _).alloc (by simp; omega) _
  have VP : Hid (VarAt w2 w.heap.size 38 [.int .i64 r, .int .i64 c, .bool d, .string s]) := by
    rw [hw2]
    exact Lib.hid (((VarAt.new w 38 [.int .i64 r, .int .i64 c, .bool d, .string s]).kept ((Below.refl _ _).alloc (Nat.le_refl _) _)).kept ((Below.refl _ _).alloc (Nat.le_refl _) _))
  have V1 : Hid (VarAt w2 (w.heap.size + 1) 36 [.int .i64 0, .string ⟨#[]⟩, .string ⟨#[]⟩]) := by
    rw [hw2]
    have := (VarAt.new (w.alloc (.cells #[.int .i64 r, .int .i64 c, .bool d, .string s] 38)) 36 [.int .i64 0, .string ⟨#[]⟩, .string ⟨#[]⟩]).kept ((Below.refl _ _).alloc (Nat.le_refl _) (.cells #[.int .i64 0, .int .i64 0, .bool false, .string ⟨#[]⟩] 38))
    simp only [World.size_alloc] at this
    exact Lib.hid this
  have V2 : Hid (VarAt w2 (w.heap.size + 1 + 1) 38 [.int .i64 0, .int .i64 0, .bool false, .string ⟨#[]⟩]) := by
    rw [hw2]
    have := VarAt.new ((w.alloc (.cells #[.int .i64 r, .int .i64 c, .bool d, .string s] 38)).alloc (.cells #[.int .i64 0, .string ⟨#[]⟩, .string ⟨#[]⟩] 36)) 38 [.int .i64 0, .int .i64 0, .bool false, .string ⟨#[]⟩]
    simp only [World.size_alloc] at this
    exact Lib.hid this
  have HG : Hid (BAt w2 g o b) := by
    rw [hw2]
    exact Lib.hid (((hg.kept ((Below.refl _ _).alloc (Nat.le_refl _) _)).kept ((Below.refl _ _).alloc (Nat.le_refl _) _)).kept ((Below.refl _ _).alloc (Nat.le_refl _) _))
  have HW2 := Lib.hid hw2
  clear hw2 hg
  cases d with
  | false =>
    go_enter Tryz.func47, Tryz.ntmps47
    go_upto_region 1 with fail
    rw [← HW2.out]
    clear HW2
    have c2 := VP.out.cell (i := 2) rfl
    go_upto_region 3 with fail
    clear c2
    obtain ⟨g0, g1, g2⟩ := HG.out
    have p0 := VP.out.cell (i := 0) rfl
    have p1 := VP.out.cell (i := 1) rfl
    have p2 := VP.out.cell (i := 2) rfl
    have p3 := VP.out.cell (i := 3) rfl
    have q0 := V1.out.cell (i := 0) rfl
    have q1 := V1.out.cell (i := 1) rfl
    have q2 := V1.out.cell (i := 2) rfl
    have f0 := V1.out.free 0
    have f1 := V1.out.free 1
    have f2 := V1.out.free 2
    obtain ⟨o0, k0⟩ := V1.out.set 0 (.int .i64 b.size)
    obtain ⟨o1, k1⟩ := o0.set 1 (.string b.premium)
    obtain ⟨o2, k2⟩ := o1.set 2 (.string b.cells)
    have G1 := grownBy_trans (grownBy_trans k0 k1) k2
    have VPx := VP.out.grown G1 (by simp)
    have V2x := V2.out.grown G1 (by simp)
    have r0 := VPx.cell (i := 0) rfl
    have r1 := VPx.cell (i := 1) rfl
    have r2 := VPx.cell (i := 2) rfl
    have r3 := VPx.cell (i := 3) rfl
    have t0 := V2x.cell (i := 0) rfl
    have t1 := V2x.cell (i := 1) rfl
    have t2 := V2x.cell (i := 2) rfl
    have t3 := V2x.cell (i := 3) rfl
    have u0 := V2x.free 0
    have u1 := V2x.free 1
    have u2 := V2x.free 2
    have u3 := V2x.free 3
    clear o0 o1 o2 k0 k1 k2 G1 VPx V2x
    go_region
    all_goals
      obtain ⟨x0, k0⟩ := V1.out.set 0 (.int .i64 b.size)
      obtain ⟨x1, k1⟩ := x0.set 1 (.string b.premium)
      obtain ⟨x2, k2⟩ := x1.set 2 (.string b.cells)
      have G1 := grownBy_trans (grownBy_trans k0 k1) k2
      have V2x := V2.out.grown G1 (by simp)
      obtain ⟨y0, j0⟩ := V2x.set 0 (.int .i64 r)
      obtain ⟨y1, j1⟩ := y0.set 1 (.int .i64 c)
      obtain ⟨y2, j2⟩ := y1.set 2 (.bool false)
      obtain ⟨y3, j3⟩ := y2.set 3 (.string s)
      have G2 := grownBy_trans (grownBy_trans (grownBy_trans j0 j1) j2) j3
      have x9 := x2.grown G2 (by simp)
      have hb8 := hb.grown G1 hb.size (fun q h => by cases h; omega)
      have hb9 := hb8.grown G2 (Nat.le_trans hb.size G1.size) (fun q h => by cases h; omega)
      have e0 := x9.cell (i := 0) rfl
      have e1 := x9.cell (i := 1) rfl
      have e2 := x9.cell (i := 2) rfl
      have e3 := y3.cell (i := 0) rfl
      have e4 := y3.cell (i := 1) rfl
      have e5 := y3.cell (i := 2) rfl
      have e6 := y3.cell (i := 3) rfl
      clear x0 x1 x2 x9 k0 k1 k2 G1 G2 V2x y0 y1 y2 y3 j0 j1 j2 j3
      go_wp2
      refine bodyPost_ret (v := .tuple #[.agg #[.int .i64 b.size, .string b.premium, .string b.cells], .agg #[.int .i64 r, .int .i64 c, .bool false, .string s]]) (by simp [results, Tryz.results47, go_sem, e0, e1, e2, e3, e4, e5, e6]) rfl ?_
      exact ⟨rfl, hb9.drew⟩
  | true =>
    go_enter Tryz.func47, Tryz.ntmps47
    go_upto_region 1 with fail
    rw [← HW2.out]
    clear HW2
    have c2 := VP.out.cell (i := 2) rfl
    have HT : Hid (∀ W, BAt W g o b → Calls Tryz.prog 92 #[.pointer (some ⟨g, o, none⟩)] W fun e w' => e = .returned (.agg #[.int .i64 b.turn.size, .string b.turn.premium, .string b.turn.cells]) ∧ Below W.heap.size W w') := Lib.hid (fun W h => l11Transpose_any b n g o W hb0 h)
    have HPT : Hid (∀ W, Calls Tryz.prog 93 #[.agg #[.int .i64 r, .int .i64 c, .bool true, .string s]] W fun e w' => e = .returned (.agg #[.int .i64 c, .int .i64 r, .bool false, .string s]) ∧ Below W.heap.size W w') := Lib.hid (fun W => l12Turn_any ⟨r, c, true, s⟩ W)
    go_upto_region 2 with fail
    clear c2
    have hd : Below w2.heap.size w2 w2.drew := (Below.refl _ _).drew
    replace VP := Lib.hid (VP.out.kept hd)
    replace V1 := Lib.hid (V1.out.kept hd)
    replace V2 := Lib.hid (V2.out.kept hd)
    replace HG := Lib.hid (HG.out.kept hd)
    replace hb := hb.trans (hd.mono hb.size)
    clear hd
    have p0 := VP.out.cell (i := 0) rfl
    have p1 := VP.out.cell (i := 1) rfl
    have p2 := VP.out.cell (i := 2) rfl
    have p3 := VP.out.cell (i := 3) rfl
    go_region_with
      ((first | (go_at_call 92; refine (HT.out _ HG.out).mono ?_) | (go_at_call 93; refine (HPT.out _).mono ?_)); rintro e wq ⟨rfl, hdq⟩; replace VP := Lib.hid (VP.out.kept hdq); replace V1 := Lib.hid (V1.out.kept hdq); replace V2 := Lib.hid (V2.out.kept hdq); replace HG := Lib.hid (HG.out.kept hdq); replace hb := hb.trans (hdq.mono hb.size); clear hdq p0 p1 p2 p3; (try clear q0 q1 q2 f0 f1 f2 t0 t1 t2 t3 u0 u1 u2 u3); have p0 := VP.out.cell (i := 0) rfl; have p1 := VP.out.cell (i := 1) rfl; have p2 := VP.out.cell (i := 2) rfl; have p3 := VP.out.cell (i := 3) rfl; have q0 := V1.out.cell (i := 0) rfl; have q1 := V1.out.cell (i := 1) rfl; have q2 := V1.out.cell (i := 2) rfl; have f0 := V1.out.free 0; have f1 := V1.out.free 1; have f2 := V1.out.free 2; have t0 := V2.out.cell (i := 0) rfl; have t1 := V2.out.cell (i := 1) rfl; have t2 := V2.out.cell (i := 2) rfl; have t3 := V2.out.cell (i := 3) rfl; have u0 := V2.out.free 0; have u1 := V2.out.free 1; have u2 := V2.out.free 2; have u3 := V2.out.free 3)
    all_goals
      obtain ⟨x0, k0⟩ := V1.out.set 0 (.int .i64 b.turn.size)
      obtain ⟨x1, k1⟩ := x0.set 1 (.string b.turn.premium)
      obtain ⟨x2, k2⟩ := x1.set 2 (.string b.turn.cells)
      have G1 := grownBy_trans (grownBy_trans k0 k1) k2
      have V2x := V2.out.grown G1 (by simp)
      obtain ⟨y0, j0⟩ := V2x.set 0 (.int .i64 c)
      obtain ⟨y1, j1⟩ := y0.set 1 (.int .i64 r)
      obtain ⟨y2, j2⟩ := y1.set 2 (.bool false)
      obtain ⟨y3, j3⟩ := y2.set 3 (.string s)
      have G2 := grownBy_trans (grownBy_trans (grownBy_trans j0 j1) j2) j3
      have x9 := x2.grown G2 (by simp)
      have hb8 := hb.grown G1 hb.size (fun q h => by cases h; omega)
      have hb9 := hb8.grown G2 (Nat.le_trans hb.size G1.size) (fun q h => by cases h; omega)
      have e0 := x9.cell (i := 0) rfl
      have e1 := x9.cell (i := 1) rfl
      have e2 := x9.cell (i := 2) rfl
      have e3 := y3.cell (i := 0) rfl
      have e4 := y3.cell (i := 1) rfl
      have e5 := y3.cell (i := 2) rfl
      have e6 := y3.cell (i := 3) rfl
      clear x0 x1 x2 x9 k0 k1 k2 G1 G2 V2x y0 y1 y2 y3 j0 j1 j2 j3
      go_wp2
      refine bodyPost_ret (v := .tuple #[.agg #[.int .i64 b.turn.size, .string b.turn.premium, .string b.turn.cells], .agg #[.int .i64 c, .int .i64 r, .bool false, .string s]]) (by simp [results, Tryz.results47, go_sem, e0, e1, e2, e3, e4, e5, e6]) rfl ?_
      exact ⟨rfl, hb9⟩
end Go.Proofs.YtpkadgibfmjmcaaGreatDoor
