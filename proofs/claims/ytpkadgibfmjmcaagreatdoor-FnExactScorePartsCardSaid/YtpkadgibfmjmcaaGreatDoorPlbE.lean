/- Contract: the program's board after a play, the walk. For valid plays on valid boards. -/
import Derived.Test.YtpkadgibfmjmcaaGreatDoorPlbD
namespace Go.Proofs.YtpkadgibfmjmcaaGreatDoor
open Go.ChangeShapes Go.WideShapes Go.ChangeAt Go.RowKit Go.Sort

set_option maxRecDepth 100000 in
set_option maxHeartbeats 4000000 in
theorem made_any (b : Brd) (p : Ply) (n : Nat) (w : World) (hp : PGood b p n) :
    Calls Tryz.prog 108 #[.agg #[.int .i64 b.size, .string b.premium, .string b.cells], .agg #[.int .i64 p.row, .int .i64 p.col, .bool p.down, .string p.word]] w fun e w' => e = .returned (.agg #[.int .i64 (b.made p).size, .string (b.made p).premium, .string (b.made p).cells]) ∧ Below w.heap.size w w' := by
  have hn15 := hp.good.hi
  have hs12 := hp.twelve
  have hbn := hp.good.size
  have hbt : b.size.toNat = n := by rw [hbn]; simp
  have hcs : b.cells.size ≤ 225 := by rw [hp.good.cells]; exact sq_mono hn15
  obtain ⟨w3, hw3⟩ : ∃ w3, w3 = ((w.alloc (.cells #[.int .i64 n, .string b.premium, .string b.cells] 36)).alloc (.cells #[.int .i64 p.row, .int .i64 p.col, .bool p.down, .string p.word] 38)).alloc (.cells #[.int .i64 0, .string ⟨#[]⟩, .string ⟨#[]⟩] 36) := ⟨_, rfl⟩
  have hs3 : w3.heap.size = w.heap.size + 1 + 1 + 1 := by rw [hw3]; simp
  have hb : Below w.heap.size w w3 := by rw [hw3]; exact (((Below.refl _ _).alloc (Nat.le_refl _) _).alloc (by simp) _).alloc (by simp; omega) _
  have VB : Hid (VarAt w3 w.heap.size 36 [.int .i64 n, .string b.premium, .string b.cells]) := by
    rw [hw3]
    exact Lib.hid (((VarAt.new w 36 [.int .i64 n, .string b.premium, .string b.cells]).kept ((Below.refl _ _).alloc (Nat.le_refl _) _)).kept ((Below.refl _ _).alloc (Nat.le_refl _) _))
  have VP : Hid (VarAt w3 (w.heap.size + 1) 38 [.int .i64 p.row, .int .i64 p.col, .bool p.down, .string p.word]) := by
    rw [hw3]
    have := (VarAt.new (w.alloc (.cells #[.int .i64 n, .string b.premium, .string b.cells] 36)) 38 [.int .i64 p.row, .int .i64 p.col, .bool p.down, .string p.word]).kept ((Below.refl _ _).alloc (Nat.le_refl _) (.cells #[.int .i64 0, .string ⟨#[]⟩, .string ⟨#[]⟩] 36))
    simp only [World.size_alloc] at this
    exact Lib.hid this
  have V0 : Hid (VarAt w3 (w.heap.size + 1 + 1) 36 [.int .i64 0, .string ⟨#[]⟩, .string ⟨#[]⟩]) := by
    rw [hw3]
    have := VarAt.new ((w.alloc (.cells #[.int .i64 n, .string b.premium, .string b.cells] 36)).alloc (.cells #[.int .i64 p.row, .int .i64 p.col, .bool p.down, .string p.word] 38)) 36 [.int .i64 0, .string ⟨#[]⟩, .string ⟨#[]⟩]
    simp only [World.size_alloc] at this
    exact Lib.hid this
  have HSQ : Hid (∀ (k : Int) W, -100 ≤ k ∧ k ≤ 100 → Calls Tryz.prog 164 #[.agg #[.int .i64 p.row, .int .i64 p.col, .bool p.down, .string p.word], .int .i64 k] W fun e w' => e = .returned (.agg #[.int .i64 (p.sr k), .int .i64 (p.sc k)]) ∧ Below W.heap.size W w') := Lib.hid (fun k W hk => square_any p k W hk hp.rows.1 hp.rows.2)
  have HAS := Lib.hid hp.ascii
  have HIX := Lib.hid (fun k (h : k < p.word.size) => hp.idx_lt h)
  have HRES : Hid (Ending.returned (.agg #[.int .i64 (b.made p).size, .string (b.made p).premium, .string (b.made p).cells]) = .returned (.agg #[.int .i64 n, .string b.premium, .string (mkB (madeK n p b.cells.data.toList p.word.size))])) := Lib.hid (by
    unfold Brd.made
    rw [hbt, hbn])
  have HLN := Lib.hid (madeK_len n p b.cells.data.toList)
  have HSC : Hid (∀ k, madeK n p b.cells.data.toList (k + 1) = (madeK n p b.cells.data.toList k).set (p.idx n k) (p.word.data.toList.getD k 0)) := Lib.hid (fun k => rfl)
  have HCL : Hid (b.cells.data.toList.length = b.cells.size) := Lib.hid (by simp)
  rw [HRES.out, hbn]
  obtain ⟨cp, w4, hcp, hcv, hr, hd⟩ := bytes_of b.cells w3
  rw [hs3] at hcv hr
  have HR : Hid (RowB w4 (w.heap.size + 1 + 1 + 1) (madeK n p b.cells.data.toList 0)) := Lib.hid hr
  have HW3 := Lib.hid hw3
  have g2 := VB.out.cell (i := 2) rfl
  clear hw3 hr HRES hbn hbt hp
  go_enter Tryz.func108, Tryz.ntmps108
  go_upto_region 1 with fail
  rw [← HW3.out]
  clear HW3
  go_upto_region 2 with fail
  clear hcv g2 hs3
  replace VB := Lib.hid (VB.out.kept hd)
  replace VP := Lib.hid (VP.out.kept hd)
  replace V0 := Lib.hid (V0.out.kept hd)
  replace hb := hb.trans (hd.mono hb.size)
  clear hd
  have hit := iter_below w4 p.word
  have HI := Lib.hid (IterAt.new w4 p.word)
  have hrlt := HR.out.lt
  have c3 := VP.out.cell (i := 3) rfl
  go_wp2_with fail
  clear c3
  replace VB := Lib.hid (VB.out.kept hit)
  replace VP := Lib.hid (VP.out.kept hit)
  replace V0 := Lib.hid (V0.out.kept hit)
  replace HR := Lib.hid (HR.out.kept hit)
  replace hb := hb.trans (hit.mono hb.size)
  clear hit
  generalize w4.iter p.word 0 = w5 at *
  generalize w4.heap.size = it at *
  go_loopw [6] (fun _ wr => ∃ k : Nat, k ≤ p.word.size ∧ Hid (IterAt wr it p.word k) ∧ Hid (RowB wr (w.heap.size + 1 + 1 + 1) (madeK n p b.cells.data.toList k)) ∧ Hid (VarAt wr w.heap.size 36 [.int .i64 n, .string b.premium, .string b.cells]) ∧ Hid (VarAt wr (w.heap.size + 1) 38 [.int .i64 p.row, .int .i64 p.col, .bool p.down, .string p.word]) ∧ Hid (VarAt wr (w.heap.size + 1 + 1) 36 [.int .i64 0, .string ⟨#[]⟩, .string ⟨#[]⟩]) ∧ Below w.heap.size w wr) (fun _ wr => p.word.size - wr.iterPos it)
  case atStart => exact ⟨0, Nat.zero_le _, HI, HR, VB, VP, V0, hb⟩
  case round =>
    clear HI HR VB VP V0 hb
    obtain ⟨k, hk, HI, HR, VB, VP, V0, hb⟩ := hrel
    by_cases hlt : k < p.word.size
    · obtain ⟨w1, hnx, hi2, hg2⟩ := next_at (P := Tryz.prog) HI.out hlt (HAS.out k hlt)
      have HPO := Lib.hid HI.out.pos
      obtain ⟨i, j, e1, e2, l1, l2, e3, hix⟩ := HIX.out k hlt
      have HT : Hid (madeK n p b.cells.data.toList (k + 1) = (madeK n p b.cells.data.toList k).set (i * n + j) p.word[k]) := Lib.hid (by rw [HSC.out, e3, getD_byt hlt])
      have HPL := Lib.hid (HLN.out k)
      replace HI := Lib.hid hi2
      replace VB := Lib.hid (VB.out.grown hg2 (by simp; omega))
      replace VP := Lib.hid (VP.out.grown hg2 (by simp; omega))
      replace V0 := Lib.hid (V0.out.grown hg2 (by simp; omega))
      replace HR := Lib.hid (HR.out.grown hg2 (by simp; omega))
      replace hb := hb.grown hg2 hb.size (fun q h => by cases h; omega)
      clear hi2 hg2 e3
      have HS1 : Hid (∀ W, Calls Tryz.prog 164 #[.agg #[.int .i64 p.row, .int .i64 p.col, .bool p.down, .string p.word], .int .i64 (k : Int)] W fun e w' => e = .returned (.agg #[.int .i64 (i : Int), .int .i64 (j : Int)]) ∧ Below W.heap.size W w') := Lib.hid (fun W => by
        have := HSQ.out k W (by omega)
        rwa [e1, e2] at this)
      clear e1 e2
      have b0 := VP.out.cell (i := 0) rfl
      have b1 := VP.out.cell (i := 1) rfl
      have b2 := VP.out.cell (i := 2) rfl
      have b3 := VP.out.cell (i := 3) rfl
      go_wp2_with fail
      clear hnx b0 b1 b2 b3
      refine (HS1.out _).mono ?_
      rintro e w6 ⟨rfl, hd⟩
      replace hb := hb.trans (hd.mono hb.size)
      replace HI := Lib.hid (HI.out.kept hd)
      replace HR := Lib.hid (HR.out.kept hd)
      replace VB := Lib.hid (VB.out.kept hd)
      replace VP := Lib.hid (VP.out.kept hd)
      replace V0 := Lib.hid (V0.out.kept hd)
      clear hd
      have VS := Lib.hid (VarAt.new w6 150 [.int .i64 (i : Int), .int .i64 (j : Int)])
      have hd : Below w6.heap.size w6 (w6.alloc (.cells #[.int .i64 (i : Int), .int .i64 (j : Int)] 150)) := (Below.refl _ _).alloc (Nat.le_refl _) _
      replace hb := hb.trans (hd.mono hb.size)
      replace HI := Lib.hid (HI.out.kept hd)
      replace HR := Lib.hid (HR.out.kept hd)
      replace VB := Lib.hid (VB.out.kept hd)
      replace VP := Lib.hid (VP.out.kept hd)
      replace V0 := Lib.hid (V0.out.kept hd)
      clear hd
      go_upto_region 6 with fail
      generalize hw7 : w6.alloc (.cells #[.int .i64 (i : Int), .int .i64 (j : Int)] 150) = w7 at *
      clear hw7
      have hd : Below w7.heap.size w7 w7.drew := (Below.refl _ _).drew
      replace hb := hb.trans (hd.mono hb.size)
      replace HI := Lib.hid (HI.out.kept hd)
      replace HR := Lib.hid (HR.out.kept hd)
      replace VB := Lib.hid (VB.out.kept hd)
      replace VP := Lib.hid (VP.out.kept hd)
      replace V0 := Lib.hid (V0.out.kept hd)
      replace VS := Lib.hid (VS.out.kept hd)
      clear hd
      have s0 := VS.out.cell (i := 0) rfl
      have s1 := VS.out.cell (i := 1) rfl
      have b0 := VB.out.cell (i := 0) rfl
      have b3 := VP.out.cell (i := 3) rfl
      obtain ⟨q, hq⟩ : ∃ q, q = i * n := ⟨_, rfl⟩
      have hqi : (i : Int) * (n : Int) = (q : Int) := by rw [hq]; push_cast; rfl
      rw [← hq] at HT hix
      have wr1 : IntKind.i64.wrap (q : Int) = q := IntWalk.i64_in _ (by omega)
      have wr2 : IntKind.i64.wrap ((q : Int) + (j : Int)) = (q : Int) + j := IntWalk.i64_in _ (by omega)
      have wr3 : ((q : Int) + (j : Int)).toNat = q + j := by omega
      have wr4 : (0 : Int) ≤ (q : Int) + (j : Int) := by omega
      have wr5 : (q : Int) + (j : Int) < (b.cells.size : Int) := by omega
      have st := HR.out.cell (i := q + j) (by rw [HPL.out, HCL.out]; exact hix)
      have sf := HR.out.free (i := q + j) (by rw [HPL.out, HCL.out]; exact hix)
      clear hq
      refine wp_region_still_tail 14 (by kernel_rfl) (by kernel_rfl) ?_
      simp only [List.take_succ_cons, List.take_zero, List.drop_succ_cons, List.drop_zero]
      change wpStill _ _ w7.drew (fun a' => wpList _ _ _ _ a' w7.drew) _ _
      generalize w7.drew = wd at *
      repeat still_step
      refine wpStill_nil ?_
      obtain ⟨h9, k9⟩ := HR.out.set (q + j) p.word[k]
      have HR9 := Lib.hid (h9.as HT.out.symm)
      have VB9 := Lib.hid (VB.out.grown k9 (by simp; omega))
      have VP9 := Lib.hid (VP.out.grown k9 (by simp))
      have V9 := Lib.hid (V0.out.grown k9 (by simp))
      have HI9 := Lib.hid (HI.out.grown k9 (by simp; omega))
      have hb9 := hb.grown k9 hb.size (fun q h => by cases h; omega)
      clear h9 k9 HR VB VP V0 HI hb s0 s1 b0 b3 VS wr1 wr2
      go_wp2
      go_roundw
      case rel => exact ⟨k + 1, by omega, HI9, HR9, VB9, VP9, V9, hb9⟩
      case measure => rw [HPO.out, HI9.out.pos]; omega
    · have hnx := next_end (P := Tryz.prog) HI.out hlt
      obtain rfl : k = p.word.size := by omega
      have HPL := Lib.hid (HLN.out p.word.size)
      generalize hP : madeK n p b.cells.data.toList p.word.size = P at *
      have HP := Lib.hid hP
      clear hP
      have hcv := HR.out.str (n := b.cells.size) (cap := cp) (by rw [HPL.out, HCL.out])
      have q0 := VB.out.cell (i := 0) rfl
      have q1 := VB.out.cell (i := 1) rfl
      have q2 := VB.out.cell (i := 2) rfl
      have p2 := VB.out.free 2
      obtain ⟨oG, kG⟩ := VB.out.set 2 (.string (mkB P))
      have r0 := oG.cell (i := 0) (v := .int .i64 n) rfl
      have r1 := oG.cell (i := 1) (v := .string b.premium) rfl
      have r2 := oG.cell (i := 2) (v := .string (mkB P)) rfl
      have V1 := Lib.hid (V0.out.grown kG (by simp; omega))
      have hb1 := hb.grown kG hb.size (fun q h => by cases h; exact Nat.le_refl _)
      have t0 := V1.out.cell (i := 0) rfl
      have t1 := V1.out.cell (i := 1) rfl
      have t2 := V1.out.cell (i := 2) rfl
      have u0 := V1.out.free 0
      have u1 := V1.out.free 1
      have u2 := V1.out.free 2
      obtain ⟨o0, k0⟩ := V1.out.set 0 (.int .i64 n)
      obtain ⟨o1, k1⟩ := o0.set 1 (.string b.premium)
      obtain ⟨o2, k2⟩ := o1.set 2 (.string (mkB P))
      have GG := grownBy_trans (grownBy_trans k0 k1) k2
      have hb9 := hb1.grown GG hb1.size (fun q h => by cases h; omega)
      have e0 := o2.cell (i := 0) (v := .int .i64 n) rfl
      have e1 := o2.cell (i := 1) (v := .string b.premium) rfl
      have e2 := o2.cell (i := 2) (v := .string (mkB P)) rfl
      clear o0 o1 o2 k0 k1 k2 GG oG kG hb1
      go_wp2
      refine bodyPost_ret (v := .agg #[.int .i64 n, .string b.premium, .string (mkB P)]) (by simp [results, Tryz.results108, go_sem, e0, e1, e2]) rfl ?_
      exact ⟨by rw [HP.out], hb9⟩
end Go.Proofs.YtpkadgibfmjmcaaGreatDoor
