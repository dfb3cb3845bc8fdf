/- Contract: the reference's draw for LegalPlay. Nothing is said of what comes but that its texts are short. -/
import Derived.Test.YtjdcdhhbgijaoaaGreatDoorLxG
namespace Go.Proofs.YtjdcdhhbgijaoaaGreatDoor
open Go.ChangeShapes Go.WideShapes Go.ChangeAt Go.RowKit Go.Sort

set_option maxRecDepth 100000 in
set_option maxHeartbeats 2000000 in
theorem DrawLegalPlay_any (ca : Option Addr) (ccap : Nat) (bs : List Int) (w : World) (hc : CodeAt w w.heap.size ca bs) : Calls Tryz.prog 10 #[.slice ca bs.length ccap] w (LegalOut w) := by
  obtain ⟨w1, hw1⟩ : ∃ w1, w1 = ((w.alloc (.cells #[.int .i64 0, .string ⟨#[]⟩, .string ⟨#[]⟩] 25)).alloc (.cells #[.slice none 0 0] 28)).alloc (.cells #[.int .i64 0, .int .i64 0, .bool false, .string ⟨#[]⟩] 30) := ⟨_, rfl⟩
  have hb : Below w.heap.size w w1 := by rw [hw1]; exact (((Below.refl _ _).alloc (Nat.le_refl _) _).alloc (by simp) _).alloc (by simp; omega) _
  have hz1 : w1.heap.size = w.heap.size + 1 + 1 + 1 := by rw [hw1]; simp
  have V2 : Hid (VarAt w1 w.heap.size 25 [.int .i64 0, .string ⟨#[]⟩, .string ⟨#[]⟩]) := by
    rw [hw1]
    exact Lib.hid (((VarAt.new w 25 [.int .i64 0, .string ⟨#[]⟩, .string ⟨#[]⟩]).kept ((Below.refl _ _).alloc (Nat.le_refl _) _)).kept ((Below.refl _ _).alloc (Nat.le_refl _) _))
  have V3 : Hid (VarAt w1 (w.heap.size + 1) 28 [.slice none 0 0]) := by
    rw [hw1]
    have := (VarAt.new (w.alloc (.cells #[.int .i64 0, .string ⟨#[]⟩, .string ⟨#[]⟩] 25)) 28 [.slice none 0 0]).kept ((Below.refl _ _).alloc (Nat.le_refl _) (.cells #[.int .i64 0, .int .i64 0, .bool false, .string ⟨#[]⟩] 30))
    simp only [World.size_alloc] at this
    exact Lib.hid this
  have V5 : Hid (VarAt w1 (w.heap.size + 1 + 1) 30 [.int .i64 0, .int .i64 0, .bool false, .string ⟨#[]⟩]) := by
    rw [hw1]
    have := VarAt.new ((w.alloc (.cells #[.int .i64 0, .string ⟨#[]⟩, .string ⟨#[]⟩] 25)).alloc (.cells #[.slice none 0 0] 28)) 30 [.int .i64 0, .int .i64 0, .bool false, .string ⟨#[]⟩]
    simp only [World.size_alloc] at this
    exact Lib.hid this
  have HC : Hid (CodeAt w1 w1.heap.size ca bs) := by
    obtain ⟨c1, c2, c3, c4⟩ := hc
    exact Lib.hid ⟨c1.kept hb, c2, c3, fun h0 cb co e => by have := c4 h0 cb co e; omega⟩
  have HW1 := Lib.hid hw1
  clear hc hw1
  go_enter Tryz.func10, Tryz.ntmps10
  go_upto_region 1 with fail
  rw [← HW1.out]
  clear HW1
  have HZ1 := Lib.hid hz1
  clear hz1
  go_wp2_with fail
  refine (l00From_any ca ccap bs _ HC.out).mono ?_
  rintro e w2 ⟨rfl, h2, s2, hz2⟩
  have hz1 := HZ1.out
  have HS := Lib.hid s2
  replace V2 := Lib.hid (V2.out.kept h2)
  replace V3 := Lib.hid (V3.out.kept h2)
  replace V5 := Lib.hid (V5.out.kept h2)
  replace hb := hb.trans (h2.mono hb.size)
  have hz3 : w1.heap.size + 1 ≤ w2.heap.size := by omega
  have hz4 : w.heap.size + 1 + 1 < w1.heap.size := by omega
  generalize w1.heap.size = B1 at *
  clear h2 s2 HC hz1 HZ1 hz2
  go_wp2_with fail
  refine (l12DrawLegal_any (B1 + 1) B1 0 _ HS.out (by omega) hz3).mono ?_
  rintro e w3 ⟨bd, p, g, m, cap, ys, rk, hP, hC, hW, hR, hl, hm, hy, rfl, ho, s3, g3⟩
  have hg := (ho.lt g rfl).1
  replace V2 := Lib.hid (V2.out.grown g3 (by simp; omega))
  replace V3 := Lib.hid (V3.out.grown g3 (by simp; omega))
  replace V5 := Lib.hid (V5.out.grown g3 (by simp; omega))
  replace hb := hb.grown g3 hb.size (fun q h => by cases h; omega)
  have HO := Lib.hid ho
  clear s3 g3 HS ho
  have c0 := V2.out.cell (i := 0) rfl
  have c1 := V2.out.cell (i := 1) rfl
  have c2 := V2.out.cell (i := 2) rfl
  have f0 := V2.out.free 0
  have f1 := V2.out.free 1
  have f2 := V2.out.free 2
  obtain ⟨o0, k0⟩ := V2.out.set 0 (.int .i64 bd.size)
  obtain ⟨o1, k1⟩ := o0.set 1 (.string bd.premium)
  obtain ⟨o2, k2⟩ := o1.set 2 (.string bd.cells)
  have G2 := grownBy_trans (grownBy_trans k0 k1) k2
  replace V3 := Lib.hid (V3.out.grown G2 (by simp <;> omega))
  replace V5 := Lib.hid (V5.out.grown G2 (by simp <;> omega))
  replace HO := Lib.hid (own_aside HO.out G2 (by first | omega | (dsimp only; omega)))
  have x0 := V3.out.cell (i := 0) rfl
  have y0 := V3.out.free 0
  obtain ⟨q0, n0⟩ := V3.out.set 0 (.slice (some ⟨g, 0, none⟩) m cap)
  replace V5 := Lib.hid (V5.out.grown n0 (by simp <;> omega))
  replace HO := Lib.hid (own_aside HO.out n0 (by first | omega | (dsimp only; omega)))
  have O2 := o2.grown n0 (by simp <;> omega)
  have d0 := V5.out.cell (i := 0) rfl
  have d1 := V5.out.cell (i := 1) rfl
  have d2 := V5.out.cell (i := 2) rfl
  have d3 := V5.out.cell (i := 3) rfl
  have g0 := V5.out.free 0
  have g1 := V5.out.free 1
  have g2 := V5.out.free 2
  have g3 := V5.out.free 3
  obtain ⟨p0, l0⟩ := V5.out.set 0 (.int .i64 p.row)
  obtain ⟨p1, l1⟩ := p0.set 1 (.int .i64 p.col)
  obtain ⟨p2, l2⟩ := p1.set 2 (.bool p.down)
  obtain ⟨p3, l3⟩ := p2.set 3 (.string p.word)
  have G3 := grownBy_trans (grownBy_trans (grownBy_trans l0 l1) l2) l3
  have O2' := O2.grown G3 (by simp <;> omega)
  have Q0' := q0.grown G3 (by simp <;> omega)
  have HF := Lib.hid (own_aside HO.out G3 (by first | omega | (dsimp only; omega)))
  have hb9 := ((hb.grown G2 hb.size (fun q h => by cases h; omega)).grown n0 (Nat.le_trans hb.size G2.size) (fun q h => by cases h; omega)).grown G3 (Nat.le_trans (Nat.le_trans hb.size G2.size) n0.size) (fun q h => by cases h; omega)
  have e0 := O2'.cell (i := 0) (v := .int .i64 bd.size) rfl
  have e1 := O2'.cell (i := 1) (v := .string bd.premium) rfl
  have e2 := O2'.cell (i := 2) (v := .string bd.cells) rfl
  have e3 := Q0'.cell (i := 0) (v := .slice (some ⟨g, 0, none⟩) m cap) rfl
  have u0 := p3.cell (i := 0) (v := .int .i64 p.row) rfl
  have u1 := p3.cell (i := 1) (v := .int .i64 p.col) rfl
  have u2 := p3.cell (i := 2) (v := .bool p.down) rfl
  have u3 := p3.cell (i := 3) (v := .string p.word) rfl
  clear o0 o1 o2 k0 k1 k2 G2 p0 p1 p2 p3 l0 l1 l2 l3 G3 O2 O2' V2 V3 V5 hb q0 n0 Q0' HO
  go_wp2
  refine bodyPost_ret (v := .tuple #[.agg #[.int .i64 bd.size, .string bd.premium, .string bd.cells], .agg #[.slice (some ⟨g, 0, none⟩) m cap], .string rk, .agg #[.int .i64 p.row, .int .i64 p.col, .bool p.down, .string p.word]]) (by simp [results, Tryz.results10, go_sem, e0, e1, e2, e3, u0, u1, u2, u3]) rfl ?_
  exact ⟨bd, p, g, m, cap, ys, rk, hP, hC, hW, hR, hl, hm, hy, rfl, own_slice Tx.enc_len HF.out hl.symm, hb9⟩
end Go.Proofs.YtjdcdhhbgijaoaaGreatDoor
