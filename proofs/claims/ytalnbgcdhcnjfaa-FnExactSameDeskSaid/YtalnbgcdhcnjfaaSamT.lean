/- Contract: the program's SameTiles. No condition but that a length fits an int. -/
import Derived.Test.YtalnbgcdhcnjfaaSam
import Derived.Test.YtalnbgcdhcnjfaaTiC
namespace Go.Proofs.Ytalnbgcdhcnjfaa
open Go.ChangeShapes Go.WideShapes Go.ChangeAt Go.RowKit Go.Sort

def sameT (x y : Tls) : Bool := (x.letters.toList == y.letters.toList) && decide (x.values = y.values) && decide (x.counts = y.counts) && (x.blanks == y.blanks)
set_option maxRecDepth 100000 in
set_option maxHeartbeats 4000000 in
theorem SameTiles_any (x y : Tls) (p q : TlA) (w : World) (ha : x.At p w) (hc : y.At q w) (hf : x.fit) (hg : y.fit) :
    Calls Try.prog 27 #[.agg #[.string x.letters, .slice p.values.a x.values.length p.values.c, .slice p.counts.a x.counts.length p.counts.c, .int .i64 x.blanks], .agg #[.string y.letters, .slice q.values.a y.values.length q.values.c, .slice q.counts.a y.counts.length q.counts.c, .int .i64 y.blanks]] w fun e w' => e = .returned (.bool (sameT x y)) ∧ Below w.heap.size w w' := by
  have HF := Lib.hid hf; clear hf
  have HG := Lib.hid hg; clear hg
  obtain ⟨w2, hw2⟩ : ∃ w2, w2 = (w.alloc (.cells #[.string x.letters, .slice p.values.a x.values.length p.values.c, .slice p.counts.a x.counts.length p.counts.c, .int .i64 x.blanks] 42)).alloc (.cells #[.string y.letters, .slice q.values.a y.values.length q.values.c, .slice q.counts.a y.counts.length q.counts.c, .int .i64 y.blanks] 42) := ⟨_, rfl⟩
  have hb : Below w.heap.size w w2 := by rw [hw2]; exact ((Below.refl _ _).alloc (Nat.le_refl _) _).alloc (by simp) _
  have VA : Hid (VarAt w2 w.heap.size 42 [.string x.letters, .slice p.values.a x.values.length p.values.c, .slice p.counts.a x.counts.length p.counts.c, .int .i64 x.blanks]) := by
    rw [hw2]
    exact Lib.hid ((VarAt.new w 42 [.string x.letters, .slice p.values.a x.values.length p.values.c, .slice p.counts.a x.counts.length p.counts.c, .int .i64 x.blanks]).kept ((Below.refl _ _).alloc (Nat.le_refl _) _))
  have VB : Hid (VarAt w2 (w.heap.size + 1) 42 [.string y.letters, .slice q.values.a y.values.length q.values.c, .slice q.counts.a y.counts.length q.counts.c, .int .i64 y.blanks]) := by
    rw [hw2]
    have := VarAt.new (w.alloc (.cells #[.string x.letters, .slice p.values.a x.values.length p.values.c, .slice p.counts.a x.counts.length p.counts.c, .int .i64 x.blanks] 42)) 42 [.string y.letters, .slice q.values.a y.values.length q.values.c, .slice q.counts.a y.counts.length q.counts.c, .int .i64 y.blanks]
    simp only [World.size_alloc] at this
    exact Lib.hid this
  have HA := Lib.hid ha; clear ha
  have HC := Lib.hid hc; clear hc
  have HW2 := Lib.hid hw2; clear hw2
  have HS : Hid (sameT x y = ((x.letters.toList == y.letters.toList) && decide (x.values = y.values) && decide (x.counts = y.counts) && (x.blanks == y.blanks))) := Lib.hid rfl
  go_enter Try.func27, Try.ntmps27
  go_upto_region 1 with fail
  rw [← HW2.out]
  clear HW2
  have c0 := VA.out.cell (i := 0) rfl
  have c1 := VA.out.cell (i := 1) rfl
  have c2 := VA.out.cell (i := 2) rfl
  have c3 := VA.out.cell (i := 3) rfl
  have d0 := VB.out.cell (i := 0) rfl
  have d1 := VB.out.cell (i := 1) rfl
  have d2 := VB.out.cell (i := 2) rfl
  have d3 := VB.out.cell (i := 3) rfl
  cases h0 : x.letters.toList == y.letters.toList with
  | false =>
    have HN : Hid (sameT x y = false) := Lib.hid (by rw [HS.out, h0]; rfl)
    go_wp2
    go_ret
    exact ⟨ret_bool HN.out.symm, hb⟩
  | true =>
    go_wp2_with fail
    refine (equalInt_any x.values y.values p.values.a q.values.a p.values.c q.values.c _ (HA.out.1.kept hb) (HC.out.1.kept hb) HF.out.2.1 HG.out.2.1).mono ?_
    rintro e w3 ⟨rfl, hd0⟩
    have hd := hd0.bel
    clear hd0
    replace hb := hb.trans (hd.mono hb.size)
    replace c0 := cell_kept c0 hd
    replace c1 := cell_kept c1 hd
    replace c2 := cell_kept c2 hd
    replace c3 := cell_kept c3 hd
    replace d0 := cell_kept d0 hd
    replace d1 := cell_kept d1 hd
    replace d2 := cell_kept d2 hd
    replace d3 := cell_kept d3 hd
    clear hd
    cases h1 : decide (x.values = y.values) with
    | false =>
      have HN : Hid (sameT x y = false) := Lib.hid (by rw [HS.out, h0, h1]; rfl)
      go_wp2
      go_ret
      exact ⟨ret_bool HN.out.symm, hb⟩
    | true =>
      go_wp2_with fail
      refine (equalInt_any x.counts y.counts p.counts.a q.counts.a p.counts.c q.counts.c _ (HA.out.2.kept hb) (HC.out.2.kept hb) HF.out.2.2 HG.out.2.2).mono ?_
      rintro e w4 ⟨rfl, hd0⟩
      have hd := hd0.bel
      clear hd0
      replace hb := hb.trans (hd.mono hb.size)
      replace c0 := cell_kept c0 hd
      replace c1 := cell_kept c1 hd
      replace c2 := cell_kept c2 hd
      replace c3 := cell_kept c3 hd
      replace d0 := cell_kept d0 hd
      replace d1 := cell_kept d1 hd
      replace d2 := cell_kept d2 hd
      replace d3 := cell_kept d3 hd
      clear hd
      cases h2 : decide (x.counts = y.counts) with
      | false =>
        have HN : Hid (sameT x y = false) := Lib.hid (by rw [HS.out, h0, h1, h2]; rfl)
        go_wp2
        go_ret
        exact ⟨ret_bool HN.out.symm, hb⟩
      | true =>
        have HN : Hid (sameT x y = (x.blanks == y.blanks)) := Lib.hid (by rw [HS.out, h0, h1, h2]; rfl)
        go_wp2
        go_ret
        exact ⟨ret_bool HN.out.symm, hb⟩
end Go.Proofs.Ytalnbgcdhcnjfaa
