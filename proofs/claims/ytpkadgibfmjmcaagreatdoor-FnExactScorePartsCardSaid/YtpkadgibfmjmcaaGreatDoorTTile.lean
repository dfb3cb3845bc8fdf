/- Contracts: the statements' own functions of TileSet (sz, to, eq). No condition but that a length fits an int. -/
import Derived.Test.YtpkadgibfmjmcaaGreatDoorTLx
import Derived.Test.YtpkadgibfmjmcaaGreatDoorVar
import Derived.Test.YtpkadgibfmjmcaaGreatDoorBox
import Derived.Test.YtpkadgibfmjmcaaGreatDoorRwa
namespace Go.Proofs.YtpkadgibfmjmcaaGreatDoor
open Go.ChangeShapes Go.WideShapes Go.ChangeAt Go.RowKit Go.Sort

structure Tls where
  letters : ByteArray
  values : List Int
  counts : List Int
  blanks : Int
/-- where its rows lie -/
structure TlA where
  values : Rwa
  counts : Rwa
def Tls.At (x : Tls) (p : TlA) (w : World) : Prop := SliceAt w 1 I64.enc p.values.a x.values ∧ SliceAt w 1 I64.enc p.counts.a x.counts
theorem Tls.At.kept {x : Tls} {p : TlA} {w w' : World} (h : x.At p w) (hb : Below w.heap.size w w') : x.At p w' := ⟨h.1.kept hb, h.2.kept hb⟩
/-- its rows are of the call's own -/
def Tls.Own (x : Tls) (p : TlA) (base : Nat) (w : World) : Prop := w.ownsRow base 2 1 (.slice p.values.a x.values.length p.values.c) x.values.length (x.values.flatMap I64.enc) ∧ w.ownsRow base 2 1 (.slice p.counts.a x.counts.length p.counts.c) x.counts.length (x.counts.flatMap I64.enc)
theorem Tls.Own.at {x : Tls} {p : TlA} {base : Nat} {w : World} (h : x.Own p base w) : x.At p w := ⟨own_slice I64.enc_len h.1 rfl, own_slice I64.enc_len h.2 rfl⟩
theorem Tls.Own.kept {x : Tls} {p : TlA} {base : Nat} {w w' : World} (h : x.Own p base w) (hb : Below w.heap.size w w') : x.Own p base w' := ⟨own_below h.1 hb, own_below h.2 hb⟩
theorem Tls.Own.mono {x : Tls} {p : TlA} {base base' : Nat} {w : World} (h : x.Own p base w) (hb : base' ≤ base) : x.Own p base' w := ⟨own_mono h.1 hb, own_mono h.2 hb⟩
theorem Tls.Own.store {x : Tls} {p : TlA} {base g : Nat} {w w' : World} (h : x.Own p base w) (hg : w.grownBy w' (some g)) (hlt : g < base) : x.Own p base w' := ⟨row_store h.1 hg hlt, row_store h.2 hg hlt⟩
def Tls.fit (x : Tls) : Prop := x.letters.size ≤ 9223372036854775807 ∧ x.values.length ≤ 9223372036854775807 ∧ x.counts.length ≤ 9223372036854775807
def Tls.sz (x : Tls) : Nat := x.letters.size + x.values.length + x.counts.length
def Tls.small (x : Tls) : Prop := x.values.length ≤ 1048576 ∧ x.counts.length ≤ 1048576
set_option maxRecDepth 100000 in
set_option maxHeartbeats 4000000 in
theorem szTileSet_any (x : Tls) (p : TlA) (left : Int) (w : World) (ha : x.At p w) (h0 : 0 ≤ left) (h1 : left ≤ 1048576) (hf : x.fit) :
    Calls Tryz.prog 10 #[.agg #[.string x.letters, .slice p.values.a x.values.length p.values.c, .slice p.counts.a x.counts.length p.counts.c, .int .i64 x.blanks], .int .i64 left] w (SzPost w left x.sz) := by
  have HF := Lib.hid hf; clear hf
  have hb : Below w.heap.size w (w.alloc (.cells #[.string x.letters, .slice p.values.a x.values.length p.values.c, .slice p.counts.a x.counts.length p.counts.c, .int .i64 x.blanks] 24)) := (Below.refl _ _).alloc (Nat.le_refl _) _
  have V := Lib.hid (VarAt.new w 24 [.string x.letters, .slice p.values.a x.values.length p.values.c, .slice p.counts.a x.counts.length p.counts.c, .int .i64 x.blanks])
  have HA := Lib.hid (ha.kept hb); clear ha
  have HZ : Hid (x.sz = x.letters.size + x.values.length + x.counts.length) := Lib.hid rfl
  have q_letters : x.letters.size ≤ 9223372036854775807 := HF.out.1
  have q_values : x.values.length ≤ 9223372036854775807 := HF.out.2.1
  have q_counts : x.counts.length ≤ 9223372036854775807 := HF.out.2.2
  go_enter Tryz.func10, Tryz.ntmps10
  go_upto_region 1 with fail
  generalize w.alloc (.cells #[.string x.letters, .slice p.values.a x.values.length p.values.c, .slice p.counts.a x.counts.length p.counts.c, .int .i64 x.blanks] 24) = w1 at *
  have c0 := V.out.cell (i := 0) rfl
  have c1 := V.out.cell (i := 1) rfl
  have c2 := V.out.cell (i := 2) rfl
  by_cases g_letters : left - x.letters.size < 0
  · go_wp2
    go_ret
    exact ⟨_, rfl, .inl rfl, hb⟩
  go_wp2_with fail
  refine (szInt64S_any x.values p.values.a p.values.c (left - x.letters.size) _ q_values (by omega) (by omega)).mono ?_
  rintro e w2 ⟨l1, rfl, z1, hd⟩
  replace hb := hb.trans (hd.mono hb.size)
  replace c0 := cell_kept c0 hd
  replace c1 := cell_kept c1 hd
  replace c2 := cell_kept c2 hd
  replace V := Lib.hid (V.out.kept hd)
  replace HA := Lib.hid (HA.out.kept hd)
  clear hd
  rcases z1 with rfl | ⟨y1, z1⟩
  · go_wp2
    go_ret
    exact ⟨_, rfl, .inl rfl, hb⟩
  have n1 : ¬ l1 < 0 := by omega
  go_wp2_with fail
  refine (szInt64S_any x.counts p.counts.a p.counts.c l1 _ q_counts (by omega) (by omega)).mono ?_
  rintro e w3 ⟨l2, rfl, z2, hd⟩
  replace hb := hb.trans (hd.mono hb.size)
  replace c0 := cell_kept c0 hd
  replace c1 := cell_kept c1 hd
  replace c2 := cell_kept c2 hd
  replace V := Lib.hid (V.out.kept hd)
  replace HA := Lib.hid (HA.out.kept hd)
  clear hd
  rcases z2 with rfl | ⟨y2, z2⟩
  · go_wp2
    go_ret
    exact ⟨_, rfl, .inl rfl, hb⟩
  have n2 : ¬ l2 < 0 := by omega
  skip
  go_wp2
  go_ret
  exact ⟨_, rfl, .inr ⟨by omega, by rw [HZ.out]; push_cast; omega⟩, hb⟩
set_option maxRecDepth 100000 in
set_option maxHeartbeats 8000000 in
theorem toTileSet_any (x : Tls) (p : TlA) (w : World) (ha : x.At p w) (hs : x.small) :
    Calls Tryz.prog 14 #[.agg #[.string x.letters, .slice p.values.a x.values.length p.values.c, .slice p.counts.a x.counts.length p.counts.c, .int .i64 x.blanks]] w fun e w' => ∃ q : TlA, e = .returned (.agg #[.string x.letters, .slice q.values.a x.values.length q.values.c, .slice q.counts.a x.counts.length q.counts.c, .int .i64 x.blanks]) ∧ x.Own q w.heap.size w' ∧ Below w.heap.size w w' := by
  obtain ⟨w3, hw3⟩ : ∃ w3, w3 = ((w.alloc (.cells #[.string x.letters, .slice p.values.a x.values.length p.values.c, .slice p.counts.a x.counts.length p.counts.c, .int .i64 x.blanks] 24)).alloc (.cells #[.string ⟨#[]⟩, .slice none 0 0, .slice none 0 0, .int .i64 0] 34)).alloc (.cells #[.string ⟨#[]⟩, .slice none 0 0, .slice none 0 0, .int .i64 0] 34) := ⟨_, rfl⟩
  have hb : Below w.heap.size w w3 := by rw [hw3]; exact (((Below.refl _ _).alloc (Nat.le_refl _) _).alloc (by simp) _).alloc (by simp; omega) _
  have VI : Hid (VarAt w3 w.heap.size 24 [.string x.letters, .slice p.values.a x.values.length p.values.c, .slice p.counts.a x.counts.length p.counts.c, .int .i64 x.blanks]) := by
    rw [hw3]
    exact Lib.hid (((VarAt.new w 24 [.string x.letters, .slice p.values.a x.values.length p.values.c, .slice p.counts.a x.counts.length p.counts.c, .int .i64 x.blanks]).kept ((Below.refl _ _).alloc (Nat.le_refl _) _)).kept ((Below.refl _ _).alloc (Nat.le_refl _) _))
  have VR : Hid (VarAt w3 (w.heap.size + 1) 34 [.string ⟨#[]⟩, .slice none 0 0, .slice none 0 0, .int .i64 0]) := by
    rw [hw3]
    have := (VarAt.new (w.alloc (.cells #[.string x.letters, .slice p.values.a x.values.length p.values.c, .slice p.counts.a x.counts.length p.counts.c, .int .i64 x.blanks] 24)) 34 [.string ⟨#[]⟩, .slice none 0 0, .slice none 0 0, .int .i64 0]).kept ((Below.refl _ _).alloc (Nat.le_refl _) (.cells #[.string ⟨#[]⟩, .slice none 0 0, .slice none 0 0, .int .i64 0] 34))
    simp only [World.size_alloc] at this
    exact Lib.hid this
  have VO : Hid (VarAt w3 (w.heap.size + 1 + 1) 34 [.string ⟨#[]⟩, .slice none 0 0, .slice none 0 0, .int .i64 0]) := by
    rw [hw3]
    have := VarAt.new ((w.alloc (.cells #[.string x.letters, .slice p.values.a x.values.length p.values.c, .slice p.counts.a x.counts.length p.counts.c, .int .i64 x.blanks] 24)).alloc (.cells #[.string ⟨#[]⟩, .slice none 0 0, .slice none 0 0, .int .i64 0] 34)) 34 [.string ⟨#[]⟩, .slice none 0 0, .slice none 0 0, .int .i64 0]
    simp only [World.size_alloc] at this
    exact Lib.hid this
  have HW3 := Lib.hid hw3; clear hw3
  have HA := Lib.hid ha; clear ha
  have HS := Lib.hid hs; clear hs
  go_enter Tryz.func14, Tryz.ntmps14
  go_upto_region 2 with fail
  rw [← HW3.out]
  clear HW3
  have c0 := VI.out.cell (i := 0) rfl
  have d0 := VO.out.cell (i := 0) rfl
  have f0 := VO.out.free 0
  go_upto_region 3 with fail
  clear d0 f0 c0
  obtain ⟨o0, k0⟩ := VO.out.set 0 (.string x.letters)
  have GG := k0
  have o9 := Lib.hid o0
  clear VO o0 k0
  have VO := o9; clear o9
  replace VI := Lib.hid (VI.out.grown GG (by simp; try omega))
  replace VR := Lib.hid (VR.out.grown GG (by simp; try omega))
  replace hb := hb.grown GG hb.size (fun q h => by cases h; omega)
  clear GG
  generalize (w3.setCell ⟨w.heap.size + 1 + 1, 0, none⟩ (.string x.letters)) = w4 at *
  have c1 := VI.out.cell (i := 1) rfl
  go_wp2_with fail
  refine (toInt64S_any x.values p.values.a p.values.c _ ((HA.out.1).kept hb) HS.out.1).mono ?_
  rintro e w5 ⟨r_values, rfl, ho, hd⟩
  have O_values := Lib.hid (own_mono ho (show w.heap.size + 1 + 1 + 1 ≤ _ from VO.out.lt)); clear ho
  replace VI := Lib.hid (VI.out.kept hd)
  replace VR := Lib.hid (VR.out.kept hd)
  replace VO := Lib.hid (VO.out.kept hd)
  replace hb := hb.trans (hd.mono hb.size)
  clear hd c1
  have d1 := VO.out.cell (i := 1) rfl
  have f1 := VO.out.free 1
  go_upto_region 4 with fail
  clear d1 f1
  obtain ⟨o0, k0⟩ := VO.out.set 1 (.slice (some ⟨r_values, 0, none⟩) x.values.length x.values.length)
  have GG := k0
  have o9 := Lib.hid o0
  clear VO o0 k0
  have VO := o9; clear o9
  replace VI := Lib.hid (VI.out.grown GG (by simp; try omega))
  replace VR := Lib.hid (VR.out.grown GG (by simp; try omega))
  replace hb := hb.grown GG hb.size (fun q h => by cases h; omega)
  replace O_values := Lib.hid (row_store O_values.out GG (by omega))
  clear GG
  generalize (w5.setCell ⟨w.heap.size + 1 + 1, 1, none⟩ (.slice (some ⟨r_values, 0, none⟩) x.values.length x.values.length)) = w6 at *
  have c2 := VI.out.cell (i := 2) rfl
  go_wp2_with fail
  refine (toInt64S_any x.counts p.counts.a p.counts.c _ ((HA.out.2).kept hb) HS.out.2).mono ?_
  rintro e w7 ⟨r_counts, rfl, ho, hd⟩
  have O_counts := Lib.hid (own_mono ho (show w.heap.size + 1 + 1 + 1 ≤ _ from VO.out.lt)); clear ho
  replace O_values := Lib.hid (own_below O_values.out hd)
  replace VI := Lib.hid (VI.out.kept hd)
  replace VR := Lib.hid (VR.out.kept hd)
  replace VO := Lib.hid (VO.out.kept hd)
  replace hb := hb.trans (hd.mono hb.size)
  clear hd c2
  have d2 := VO.out.cell (i := 2) rfl
  have f2 := VO.out.free 2
  go_upto_region 5 with fail
  clear d2 f2
  obtain ⟨o0, k0⟩ := VO.out.set 2 (.slice (some ⟨r_counts, 0, none⟩) x.counts.length x.counts.length)
  have GG := k0
  have o9 := Lib.hid o0
  clear VO o0 k0
  have VO := o9; clear o9
  replace VI := Lib.hid (VI.out.grown GG (by simp; try omega))
  replace VR := Lib.hid (VR.out.grown GG (by simp; try omega))
  replace hb := hb.grown GG hb.size (fun q h => by cases h; omega)
  replace O_values := Lib.hid (row_store O_values.out GG (by omega))
  replace O_counts := Lib.hid (row_store O_counts.out GG (by omega))
  clear GG
  generalize (w7.setCell ⟨w.heap.size + 1 + 1, 2, none⟩ (.slice (some ⟨r_counts, 0, none⟩) x.counts.length x.counts.length)) = w8 at *
  have c3 := VI.out.cell (i := 3) rfl
  have d3 := VO.out.cell (i := 3) rfl
  have f3 := VO.out.free 3
  go_upto_region 6 with fail
  clear d3 f3 c3
  obtain ⟨o0, k0⟩ := VO.out.set 3 (.int .i64 x.blanks)
  have GG := k0
  have o9 := Lib.hid o0
  clear VO o0 k0
  have VO := o9; clear o9
  replace VI := Lib.hid (VI.out.grown GG (by simp; try omega))
  replace VR := Lib.hid (VR.out.grown GG (by simp; try omega))
  replace hb := hb.grown GG hb.size (fun q h => by cases h; omega)
  replace O_values := Lib.hid (row_store O_values.out GG (by omega))
  replace O_counts := Lib.hid (row_store O_counts.out GG (by omega))
  clear GG
  generalize (w8.setCell ⟨w.heap.size + 1 + 1, 3, none⟩ (.int .i64 x.blanks)) = w9 at *
  have t0 := VO.out.cell (i := 0) (v := .string x.letters) rfl
  have u0 := VR.out.cell (i := 0) rfl
  have f0 := VR.out.free 0
  have t1 := VO.out.cell (i := 1) (v := .slice (some ⟨r_values, 0, none⟩) x.values.length x.values.length) rfl
  have u1 := VR.out.cell (i := 1) rfl
  have f1 := VR.out.free 1
  have t2 := VO.out.cell (i := 2) (v := .slice (some ⟨r_counts, 0, none⟩) x.counts.length x.counts.length) rfl
  have u2 := VR.out.cell (i := 2) rfl
  have f2 := VR.out.free 2
  have t3 := VO.out.cell (i := 3) (v := .int .i64 x.blanks) rfl
  have u3 := VR.out.cell (i := 3) rfl
  have f3 := VR.out.free 3
  obtain ⟨o0, k0⟩ := VR.out.set 0 (.string x.letters)
  obtain ⟨o1, k1⟩ := o0.set 1 (.slice (some ⟨r_values, 0, none⟩) x.values.length x.values.length)
  obtain ⟨o2, k2⟩ := o1.set 2 (.slice (some ⟨r_counts, 0, none⟩) x.counts.length x.counts.length)
  obtain ⟨o3, k3⟩ := o2.set 3 (.int .i64 x.blanks)
  have GG := (grownBy_trans (grownBy_trans (grownBy_trans k0 k1) k2) k3)
  have hb9 := hb.grown GG hb.size (fun q h => by cases h; omega)
  have e0 := o3.cell (i := 0) (v := .string x.letters) rfl
  have e1 := o3.cell (i := 1) (v := .slice (some ⟨r_values, 0, none⟩) x.values.length x.values.length) rfl
  have e2 := o3.cell (i := 2) (v := .slice (some ⟨r_counts, 0, none⟩) x.counts.length x.counts.length) rfl
  have e3 := o3.cell (i := 3) (v := .int .i64 x.blanks) rfl
  replace O_values := Lib.hid (row_store O_values.out GG (by omega))
  replace O_counts := Lib.hid (row_store O_counts.out GG (by omega))
  clear GG VI VR VO hb o0 k0 o1 k1 o2 k2 o3 k3
  go_wp2
  refine bodyPost_ret (v := .agg #[.string x.letters, .slice (some ⟨r_values, 0, none⟩) x.values.length x.values.length, .slice (some ⟨r_counts, 0, none⟩) x.counts.length x.counts.length, .int .i64 x.blanks]) (by simp [results, Tryz.results14, go_sem, e0, e1, e2, e3]) rfl ?_
  exact ⟨⟨⟨some ⟨r_values, 0, none⟩, x.values.length⟩, ⟨some ⟨r_counts, 0, none⟩, x.counts.length⟩⟩, rfl, ⟨own_mono O_values.out (by omega), own_mono O_counts.out (by omega)⟩, hb9⟩
set_option maxRecDepth 100000 in
set_option maxHeartbeats 4000000 in
theorem eqTileSet_any (x : Tls) (p q : TlA) (w : World) (ha : x.At p w) (hc : x.At q w) (hf : x.fit) :
    Calls Tryz.prog 19 #[.agg #[.string x.letters, .slice p.values.a x.values.length p.values.c, .slice p.counts.a x.counts.length p.counts.c, .int .i64 x.blanks], .agg #[.string x.letters, .slice q.values.a x.values.length q.values.c, .slice q.counts.a x.counts.length q.counts.c, .int .i64 x.blanks]] w fun e w' => e = .returned (.bool true) ∧ Below w.heap.size w w' := by
  have HF := Lib.hid hf; clear hf
  obtain ⟨w2, hw2⟩ : ∃ w2, w2 = (w.alloc (.cells #[.string x.letters, .slice p.values.a x.values.length p.values.c, .slice p.counts.a x.counts.length p.counts.c, .int .i64 x.blanks] 34)).alloc (.cells #[.string x.letters, .slice q.values.a x.values.length q.values.c, .slice q.counts.a x.counts.length q.counts.c, .int .i64 x.blanks] 34) := ⟨_, rfl⟩
  have hb : Below w.heap.size w w2 := by rw [hw2]; exact ((Below.refl _ _).alloc (Nat.le_refl _) _).alloc (by simp) _
  have VA : Hid (VarAt w2 w.heap.size 34 [.string x.letters, .slice p.values.a x.values.length p.values.c, .slice p.counts.a x.counts.length p.counts.c, .int .i64 x.blanks]) := by
    rw [hw2]
    exact Lib.hid ((VarAt.new w 34 [.string x.letters, .slice p.values.a x.values.length p.values.c, .slice p.counts.a x.counts.length p.counts.c, .int .i64 x.blanks]).kept ((Below.refl _ _).alloc (Nat.le_refl _) _))
  have VB : Hid (VarAt w2 (w.heap.size + 1) 34 [.string x.letters, .slice q.values.a x.values.length q.values.c, .slice q.counts.a x.counts.length q.counts.c, .int .i64 x.blanks]) := by
    rw [hw2]
    have := VarAt.new (w.alloc (.cells #[.string x.letters, .slice p.values.a x.values.length p.values.c, .slice p.counts.a x.counts.length p.counts.c, .int .i64 x.blanks] 34)) 34 [.string x.letters, .slice q.values.a x.values.length q.values.c, .slice q.counts.a x.counts.length q.counts.c, .int .i64 x.blanks]
    simp only [World.size_alloc] at this
    exact Lib.hid this
  have HA := Lib.hid ha; clear ha
  have HC := Lib.hid hc; clear hc
  have HW2 := Lib.hid hw2; clear hw2
  go_enter Tryz.func19, Tryz.ntmps19
  go_upto_region 1 with fail
  rw [← HW2.out]
  clear HW2
  have c0 := VA.out.cell (i := 0) rfl
  have d0 := VB.out.cell (i := 0) rfl
  have c1 := VA.out.cell (i := 1) rfl
  have d1 := VB.out.cell (i := 1) rfl
  have c2 := VA.out.cell (i := 2) rfl
  have d2 := VB.out.cell (i := 2) rfl
  have c3 := VA.out.cell (i := 3) rfl
  have d3 := VB.out.cell (i := 3) rfl
  go_wp2_with fail
  refine (eqInt64S_any x.values p.values.a q.values.a p.values.c q.values.c _ ((HA.out.1).kept hb) ((HC.out.1).kept hb) HF.out.2.1).mono ?_
  rintro e w3 ⟨rfl, hd⟩
  replace hb := hb.trans (hd.mono hb.size)
  replace c0 := cell_kept c0 hd
  replace d0 := cell_kept d0 hd
  replace c1 := cell_kept c1 hd
  replace d1 := cell_kept d1 hd
  replace c2 := cell_kept c2 hd
  replace d2 := cell_kept d2 hd
  replace c3 := cell_kept c3 hd
  replace d3 := cell_kept d3 hd
  clear hd
  go_wp2_with fail
  refine (eqInt64S_any x.counts p.counts.a q.counts.a p.counts.c q.counts.c _ ((HA.out.2).kept hb) ((HC.out.2).kept hb) HF.out.2.2).mono ?_
  rintro e w4 ⟨rfl, hd⟩
  replace hb := hb.trans (hd.mono hb.size)
  replace c0 := cell_kept c0 hd
  replace d0 := cell_kept d0 hd
  replace c1 := cell_kept c1 hd
  replace d1 := cell_kept d1 hd
  replace c2 := cell_kept c2 hd
  replace d2 := cell_kept d2 hd
  replace c3 := cell_kept c3 hd
  replace d3 := cell_kept d3 hd
  clear hd
  go_wp2
  go_ret
  exact ⟨rfl, hb⟩
end Go.Proofs.YtpkadgibfmjmcaaGreatDoor
