/- Contracts: the statements' own functions of TileSet (sz, to, eq). No condition but that a length fits an int. · Plain definitions and lemmas: valid tile sets, the values of letters. No condition. · Contracts: the reference's test on tile sets, the values of letters. No condition but that lengths fit an int. · Contract: the reference's test on tile sets. No condition but that lengths fit an int. · Contracts: the program's test on tile sets, the value of a letter. No condition but that lengths fit an int. -/
import Derived.Test.YtalnbgcdhcnjfaaTx
import Derived.Test.YtalnbgcdhcnjfaaVar
import Derived.Test.YtalnbgcdhcnjfaaBase
import Derived.Test.YtalnbgcdhcnjfaaBrA
import Derived.Lib.IndexLaws
import Derived.Test.YtalnbgcdhcnjfaaLex
namespace Go.Proofs.Ytalnbgcdhcnjfaa
open Go.ChangeShapes Go.WideShapes Go.ChangeAt Go.RowKit Go.Sort

structure Tls where
  letters : ByteArray
  values : List Int
  counts : List Int
  blanks : Int
/-- where its rows lie -/
structure TlA where
  values : Rwa
  counts : Rwa
def Tls.At (x : Tls) (p : TlA) (w : World) : Prop := SliceAt w 1 I64.enc p.values.a x.values ∧ SliceAt w 1 I64.enc p.counts.a x.counts
theorem Tls.At.kept {x : Tls} {p : TlA} {w w' : World} (h : x.At p w) (hb : Below w.heap.size w w') : x.At p w' := ⟨h.1.kept hb, h.2.kept hb⟩
/-- its rows are of the call's own -/
def Tls.Own (x : Tls) (p : TlA) (base : Nat) (w : World) : Prop := w.ownsRow base 2 1 (.slice p.values.a x.values.length p.values.c) x.values.length (x.values.flatMap I64.enc) ∧ w.ownsRow base 2 1 (.slice p.counts.a x.counts.length p.counts.c) x.counts.length (x.counts.flatMap I64.enc)
theorem Tls.Own.at {x : Tls} {p : TlA} {base : Nat} {w : World} (h : x.Own p base w) : x.At p w := ⟨own_slice I64.enc_len h.1 rfl, own_slice I64.enc_len h.2 rfl⟩
theorem Tls.Own.kept {x : Tls} {p : TlA} {base : Nat} {w w' : World} (h : x.Own p base w) (hb : Below w.heap.size w w') : x.Own p base w' := ⟨own_below h.1 hb, own_below h.2 hb⟩
theorem Tls.Own.mono {x : Tls} {p : TlA} {base base' : Nat} {w : World} (h : x.Own p base w) (hb : base' ≤ base) : x.Own p base' w := ⟨own_mono h.1 hb, own_mono h.2 hb⟩
theorem Tls.Own.store {x : Tls} {p : TlA} {base g : Nat} {w w' : World} (h : x.Own p base w) (hg : w.grownBy w' (some g)) (hlt : g < base) : x.Own p base w' := ⟨row_store h.1 hg hlt, row_store h.2 hg hlt⟩
def Tls.fit (x : Tls) : Prop := x.letters.size ≤ 9223372036854775807 ∧ x.values.length ≤ 9223372036854775807 ∧ x.counts.length ≤ 9223372036854775807
def Tls.sz (x : Tls) : Nat := x.letters.size + x.values.length + x.counts.length
def Tls.small (x : Tls) : Prop := x.values.length ≤ 1048576 ∧ x.counts.length ≤ 1048576
set_option maxRecDepth 100000 in
set_option maxHeartbeats 4000000 in
theorem szTileSet_any (x : Tls) (p : TlA) (left : Int) (w : World) (ha : x.At p w) (h0 : 0 ≤ left) (h1 : left ≤ 1048576) (hf : x.fit) :
    Calls Try.prog 36 #[.agg #[.string x.letters, .slice p.values.a x.values.length p.values.c, .slice p.counts.a x.counts.length p.counts.c, .int .i64 x.blanks], .int .i64 left] w (SzPost w left x.sz) := by
  have HF := Lib.hid hf; clear hf
  have hb : Below w.heap.size w (w.alloc (.cells #[.string x.letters, .slice p.values.a x.values.length p.values.c, .slice p.counts.a x.counts.length p.counts.c, .int .i64 x.blanks] 24)) := (Below.refl _ _).alloc (Nat.le_refl _) _
  have V := Lib.hid (VarAt.new w 24 [.string x.letters, .slice p.values.a x.values.length p.values.c, .slice p.counts.a x.counts.length p.counts.c, .int .i64 x.blanks])
  have HA := Lib.hid (ha.kept hb); clear ha
  have HZ : Hid (x.sz = x.letters.size + x.values.length + x.counts.length) := Lib.hid rfl
  have q_letters : x.letters.size ≤ 9223372036854775807 := HF.out.1
  have q_values : x.values.length ≤ 9223372036854775807 := HF.out.2.1
  have q_counts : x.counts.length ≤ 9223372036854775807 := HF.out.2.2
  go_enter Try.func36, Try.ntmps36
  go_upto_region 1 with fail
  generalize w.alloc (.cells #[.string x.letters, .slice p.values.a x.values.length p.values.c, .slice p.counts.a x.counts.length p.counts.c, .int .i64 x.blanks] 24) = w1 at *
  have c0 := V.out.cell (i := 0) rfl
  have c1 := V.out.cell (i := 1) rfl
  have c2 := V.out.cell (i := 2) rfl
  by_cases g_letters : left - x.letters.size < 0
  · go_wp2
    go_ret
    exact ⟨_, rfl, .inl rfl, hb⟩
  go_wp2_with fail
  refine (szInt64S_any x.values p.values.a p.values.c (left - x.letters.size) _ q_values (by omega) (by omega)).mono ?_
  rintro e w2 ⟨l1, rfl, z1, hd⟩
  replace hb := hb.trans (hd.mono hb.size)
  replace c0 := cell_kept c0 hd
  replace c1 := cell_kept c1 hd
  replace c2 := cell_kept c2 hd
  replace V := Lib.hid (V.out.kept hd)
  replace HA := Lib.hid (HA.out.kept hd)
  clear hd
  rcases z1 with rfl | ⟨y1, z1⟩
  · go_wp2
    go_ret
    exact ⟨_, rfl, .inl rfl, hb⟩
  have n1 : ¬ l1 < 0 := by omega
  go_wp2_with fail
  refine (szInt64S_any x.counts p.counts.a p.counts.c l1 _ q_counts (by omega) (by omega)).mono ?_
  rintro e w3 ⟨l2, rfl, z2, hd⟩
  replace hb := hb.trans (hd.mono hb.size)
  replace c0 := cell_kept c0 hd
  replace c1 := cell_kept c1 hd
  replace c2 := cell_kept c2 hd
  replace V := Lib.hid (V.out.kept hd)
  replace HA := Lib.hid (HA.out.kept hd)
  clear hd
  rcases z2 with rfl | ⟨y2, z2⟩
  · go_wp2
    go_ret
    exact ⟨_, rfl, .inl rfl, hb⟩
  have n2 : ¬ l2 < 0 := by omega
  skip
  go_wp2
  go_ret
  exact ⟨_, rfl, .inr ⟨by omega, by rw [HZ.out]; push_cast; omega⟩, hb⟩
/-- two rows do not lie in one block -/
def offA (a b : Option Addr) : Prop := ∀ g, a.map (·.block) = some g → b.map (·.block) = some g → False
theorem own_off {w w' : World} {b1 b2 s1 s2 n1 n2 c1 c2 : Nat} {e1 e2 : TypeId} {L1 L2 : List Value} {a b : Option Addr} (h1 : w.ownsRow b1 e1 s1 (.slice a n1 c1) n1 L1) (h2 : w'.ownsRow b2 e2 s2 (.slice b n2 c2) n2 L2) (hle : w.heap.size ≤ b2) : offA a b := by
  intro g ha hb
  cases a with
  | none => cases ha
  | some x =>
    cases b with
    | none => cases hb
    | some y =>
      cases ha
      have h3 := (h1.lt x.block rfl).2
      have h4 := (h2.lt y.block rfl).1
      have h5 : y.block = x.block := Option.some.inj hb
      omega
set_option maxRecDepth 100000 in
set_option maxHeartbeats 8000000 in
theorem toTileSetA_any (x : Tls) (p : TlA) (w : World) (ha : x.At p w) (hs : x.small) :
    Calls Try.prog 39 #[.agg #[.string x.letters, .slice p.values.a x.values.length p.values.c, .slice p.counts.a x.counts.length p.counts.c, .int .i64 x.blanks]] w fun e w' => ∃ q : TlA, e = .returned (.agg #[.string x.letters, .slice q.values.a x.values.length q.values.c, .slice q.counts.a x.counts.length q.counts.c, .int .i64 x.blanks]) ∧ x.Own q w.heap.size w' ∧ offA q.values.a q.counts.a ∧ Below w.heap.size w w' := by
  obtain ⟨w3, hw3⟩ : ∃ w3, w3 = ((w.alloc (.cells #[.string x.letters, .slice p.values.a x.values.length p.values.c, .slice p.counts.a x.counts.length p.counts.c, .int .i64 x.blanks] 24)).alloc (.cells #[.string ⟨#[]⟩, .slice none 0 0, .slice none 0 0, .int .i64 0] 42)).alloc (.cells #[.string ⟨#[]⟩, .slice none 0 0, .slice none 0 0, .int .i64 0] 42) := ⟨_, rfl⟩
  have hb : Below w.heap.size w w3 := by rw [hw3]; exact (((Below.refl _ _).alloc (Nat.le_refl _) _).alloc (by simp) _).alloc (by simp; omega) _
  have VI : Hid (VarAt w3 w.heap.size 24 [.string x.letters, .slice p.values.a x.values.length p.values.c, .slice p.counts.a x.counts.length p.counts.c, .int .i64 x.blanks]) := by
    rw [hw3]
    exact Lib.hid (((VarAt.new w 24 [.string x.letters, .slice p.values.a x.values.length p.values.c, .slice p.counts.a x.counts.length p.counts.c, .int .i64 x.blanks]).kept ((Below.refl _ _).alloc (Nat.le_refl _) _)).kept ((Below.refl _ _).alloc (Nat.le_refl _) _))
  have VR : Hid (VarAt w3 (w.heap.size + 1) 42 [.string ⟨#[]⟩, .slice none 0 0, .slice none 0 0, .int .i64 0]) := by
    rw [hw3]
    have := (VarAt.new (w.alloc (.cells #[.string x.letters, .slice p.values.a x.values.length p.values.c, .slice p.counts.a x.counts.length p.counts.c, .int .i64 x.blanks] 24)) 42 [.string ⟨#[]⟩, .slice none 0 0, .slice none 0 0, .int .i64 0]).kept ((Below.refl _ _).alloc (Nat.le_refl _) (.cells #[.string ⟨#[]⟩, .slice none 0 0, .slice none 0 0, .int .i64 0] 42))
    simp only [World.size_alloc] at this
    exact Lib.hid this
  have VO : Hid (VarAt w3 (w.heap.size + 1 + 1) 42 [.string ⟨#[]⟩, .slice none 0 0, .slice none 0 0, .int .i64 0]) := by
    rw [hw3]
    have := VarAt.new ((w.alloc (.cells #[.string x.letters, .slice p.values.a x.values.length p.values.c, .slice p.counts.a x.counts.length p.counts.c, .int .i64 x.blanks] 24)).alloc (.cells #[.string ⟨#[]⟩, .slice none 0 0, .slice none 0 0, .int .i64 0] 42)) 42 [.string ⟨#[]⟩, .slice none 0 0, .slice none 0 0, .int .i64 0]
    simp only [World.size_alloc] at this
    exact Lib.hid this
  have HW3 := Lib.hid hw3; clear hw3
  have HA := Lib.hid ha; clear ha
  have HS := Lib.hid hs; clear hs
  go_enter Try.func39, Try.ntmps39
  go_upto_region 2 with fail
  rw [← HW3.out]
  clear HW3
  have c0 := VI.out.cell (i := 0) rfl
  have d0 := VO.out.cell (i := 0) rfl
  have f0 := VO.out.free 0
  go_upto_region 3 with fail
  clear d0 f0 c0
  obtain ⟨o0, k0⟩ := VO.out.set 0 (.string x.letters)
  have GG := k0
  have o9 := Lib.hid o0
  clear VO o0 k0
  have VO := o9; clear o9
  replace VI := Lib.hid (VI.out.grown GG (by simp; try omega))
  replace VR := Lib.hid (VR.out.grown GG (by simp; try omega))
  replace hb := hb.grown GG hb.size (fun q h => by cases h; omega)
  clear GG
  generalize (w3.setCell ⟨w.heap.size + 1 + 1, 0, none⟩ (.string x.letters)) = w4 at *
  have c1 := VI.out.cell (i := 1) rfl
  go_wp2_with fail
  refine (toInt64S_any x.values p.values.a p.values.c _ ((HA.out.1).kept hb) HS.out.1).mono ?_
  rintro e w5 ⟨r_values, rfl, ho, hd⟩
  have O_values := Lib.hid (own_mono ho (show w.heap.size + 1 + 1 + 1 ≤ _ from VO.out.lt)); clear ho
  replace VI := Lib.hid (VI.out.kept hd)
  replace VR := Lib.hid (VR.out.kept hd)
  replace VO := Lib.hid (VO.out.kept hd)
  replace hb := hb.trans (hd.mono hb.size)
  clear hd c1
  have d1 := VO.out.cell (i := 1) rfl
  have f1 := VO.out.free 1
  go_upto_region 4 with fail
  clear d1 f1
  obtain ⟨o0, k0⟩ := VO.out.set 1 (.slice (some ⟨r_values, 0, none⟩) x.values.length x.values.length)
  have GG := k0
  have o9 := Lib.hid o0
  clear VO o0 k0
  have VO := o9; clear o9
  replace VI := Lib.hid (VI.out.grown GG (by simp; try omega))
  replace VR := Lib.hid (VR.out.grown GG (by simp; try omega))
  replace hb := hb.grown GG hb.size (fun q h => by cases h; omega)
  replace O_values := Lib.hid (row_store O_values.out GG (by omega))
  clear GG
  generalize (w5.setCell ⟨w.heap.size + 1 + 1, 1, none⟩ (.slice (some ⟨r_values, 0, none⟩) x.values.length x.values.length)) = w6 at *
  have c2 := VI.out.cell (i := 2) rfl
  go_wp2_with fail
  refine (toInt64S_any x.counts p.counts.a p.counts.c _ ((HA.out.2).kept hb) HS.out.2).mono ?_
  rintro e w7 ⟨r_counts, rfl, ho, hd⟩
  have A_counts := own_off O_values.out ho (Nat.le_refl _)
  have O_counts := Lib.hid (own_mono ho (show w.heap.size + 1 + 1 + 1 ≤ _ from VO.out.lt)); clear ho
  replace O_values := Lib.hid (own_below O_values.out hd)
  replace VI := Lib.hid (VI.out.kept hd)
  replace VR := Lib.hid (VR.out.kept hd)
  replace VO := Lib.hid (VO.out.kept hd)
  replace hb := hb.trans (hd.mono hb.size)
  clear hd c2
  have d2 := VO.out.cell (i := 2) rfl
  have f2 := VO.out.free 2
  go_upto_region 5 with fail
  clear d2 f2
  obtain ⟨o0, k0⟩ := VO.out.set 2 (.slice (some ⟨r_counts, 0, none⟩) x.counts.length x.counts.length)
  have GG := k0
  have o9 := Lib.hid o0
  clear VO o0 k0
  have VO := o9; clear o9
  replace VI := Lib.hid (VI.out.grown GG (by simp; try omega))
  replace VR := Lib.hid (VR.out.grown GG (by simp; try omega))
  replace hb := hb.grown GG hb.size (fun q h => by cases h; omega)
  replace O_values := Lib.hid (row_store O_values.out GG (by omega))
  replace O_counts := Lib.hid (row_store O_counts.out GG (by omega))
  clear GG
  generalize (w7.setCell ⟨w.heap.size + 1 + 1, 2, none⟩ (.slice (some ⟨r_counts, 0, none⟩) x.counts.length x.counts.length)) = w8 at *
  have c3 := VI.out.cell (i := 3) rfl
  have d3 := VO.out.cell (i := 3) rfl
  have f3 := VO.out.free 3
  go_upto_region 6 with fail
  clear d3 f3 c3
  obtain ⟨o0, k0⟩ := VO.out.set 3 (.int .i64 x.blanks)
  have GG := k0
  have o9 := Lib.hid o0
  clear VO o0 k0
  have VO := o9; clear o9
  replace VI := Lib.hid (VI.out.grown GG (by simp; try omega))
  replace VR := Lib.hid (VR.out.grown GG (by simp; try omega))
  replace hb := hb.grown GG hb.size (fun q h => by cases h; omega)
  replace O_values := Lib.hid (row_store O_values.out GG (by omega))
  replace O_counts := Lib.hid (row_store O_counts.out GG (by omega))
  clear GG
  generalize (w8.setCell ⟨w.heap.size + 1 + 1, 3, none⟩ (.int .i64 x.blanks)) = w9 at *
  have t0 := VO.out.cell (i := 0) (v := .string x.letters) rfl
  have u0 := VR.out.cell (i := 0) rfl
  have f0 := VR.out.free 0
  have t1 := VO.out.cell (i := 1) (v := .slice (some ⟨r_values, 0, none⟩) x.values.length x.values.length) rfl
  have u1 := VR.out.cell (i := 1) rfl
  have f1 := VR.out.free 1
  have t2 := VO.out.cell (i := 2) (v := .slice (some ⟨r_counts, 0, none⟩) x.counts.length x.counts.length) rfl
  have u2 := VR.out.cell (i := 2) rfl
  have f2 := VR.out.free 2
  have t3 := VO.out.cell (i := 3) (v := .int .i64 x.blanks) rfl
  have u3 := VR.out.cell (i := 3) rfl
  have f3 := VR.out.free 3
  obtain ⟨o0, k0⟩ := VR.out.set 0 (.string x.letters)
  obtain ⟨o1, k1⟩ := o0.set 1 (.slice (some ⟨r_values, 0, none⟩) x.values.length x.values.length)
  obtain ⟨o2, k2⟩ := o1.set 2 (.slice (some ⟨r_counts, 0, none⟩) x.counts.length x.counts.length)
  obtain ⟨o3, k3⟩ := o2.set 3 (.int .i64 x.blanks)
  have GG := (grownBy_trans (grownBy_trans (grownBy_trans k0 k1) k2) k3)
  have hb9 := hb.grown GG hb.size (fun q h => by cases h; omega)
  have e0 := o3.cell (i := 0) (v := .string x.letters) rfl
  have e1 := o3.cell (i := 1) (v := .slice (some ⟨r_values, 0, none⟩) x.values.length x.values.length) rfl
  have e2 := o3.cell (i := 2) (v := .slice (some ⟨r_counts, 0, none⟩) x.counts.length x.counts.length) rfl
  have e3 := o3.cell (i := 3) (v := .int .i64 x.blanks) rfl
  replace O_values := Lib.hid (row_store O_values.out GG (by omega))
  replace O_counts := Lib.hid (row_store O_counts.out GG (by omega))
  clear GG VI VR VO hb o0 k0 o1 k1 o2 k2 o3 k3
  go_wp2
  refine bodyPost_ret (v := .agg #[.string x.letters, .slice (some ⟨r_values, 0, none⟩) x.values.length x.values.length, .slice (some ⟨r_counts, 0, none⟩) x.counts.length x.counts.length, .int .i64 x.blanks]) (by simp [results, Try.results39, go_sem, e0, e1, e2, e3]) rfl ?_
  exact ⟨⟨⟨some ⟨r_values, 0, none⟩, x.values.length⟩, ⟨some ⟨r_counts, 0, none⟩, x.counts.length⟩⟩, rfl, ⟨own_mono O_values.out (by omega), own_mono O_counts.out (by omega)⟩, A_counts, hb9⟩
theorem toTileSet_any (x : Tls) (p : TlA) (w : World) (ha : x.At p w) (hs : x.small) :
    Calls Try.prog 39 #[.agg #[.string x.letters, .slice p.values.a x.values.length p.values.c, .slice p.counts.a x.counts.length p.counts.c, .int .i64 x.blanks]] w fun e w' => ∃ q : TlA, e = .returned (.agg #[.string x.letters, .slice q.values.a x.values.length q.values.c, .slice q.counts.a x.counts.length q.counts.c, .int .i64 x.blanks]) ∧ x.Own q w.heap.size w' ∧ Below w.heap.size w w' :=
  (toTileSetA_any x p w ha hs).mono (by
    rintro e w' ⟨q, rfl, ho, _, hd⟩
    exact ⟨q, rfl, ho, hd⟩)
set_option maxRecDepth 100000 in
set_option maxHeartbeats 4000000 in
theorem eqTileSet_any (x : Tls) (p q : TlA) (w : World) (ha : x.At p w) (hc : x.At q w) (hf : x.fit) :
    Calls Try.prog 42 #[.agg #[.string x.letters, .slice p.values.a x.values.length p.values.c, .slice p.counts.a x.counts.length p.counts.c, .int .i64 x.blanks], .agg #[.string x.letters, .slice q.values.a x.values.length q.values.c, .slice q.counts.a x.counts.length q.counts.c, .int .i64 x.blanks]] w fun e w' => e = .returned (.bool true) ∧ Below w.heap.size w w' := by
  have HF := Lib.hid hf; clear hf
  obtain ⟨w2, hw2⟩ : ∃ w2, w2 = (w.alloc (.cells #[.string x.letters, .slice p.values.a x.values.length p.values.c, .slice p.counts.a x.counts.length p.counts.c, .int .i64 x.blanks] 42)).alloc (.cells #[.string x.letters, .slice q.values.a x.values.length q.values.c, .slice q.counts.a x.counts.length q.counts.c, .int .i64 x.blanks] 42) := ⟨_, rfl⟩
  have hb : Below w.heap.size w w2 := by rw [hw2]; exact ((Below.refl _ _).alloc (Nat.le_refl _) _).alloc (by simp) _
  have VA : Hid (VarAt w2 w.heap.size 42 [.string x.letters, .slice p.values.a x.values.length p.values.c, .slice p.counts.a x.counts.length p.counts.c, .int .i64 x.blanks]) := by
    rw [hw2]
    exact Lib.hid ((VarAt.new w 42 [.string x.letters, .slice p.values.a x.values.length p.values.c, .slice p.counts.a x.counts.length p.counts.c, .int .i64 x.blanks]).kept ((Below.refl _ _).alloc (Nat.le_refl _) _))
  have VB : Hid (VarAt w2 (w.heap.size + 1) 42 [.string x.letters, .slice q.values.a x.values.length q.values.c, .slice q.counts.a x.counts.length q.counts.c, .int .i64 x.blanks]) := by
    rw [hw2]
    have := VarAt.new (w.alloc (.cells #[.string x.letters, .slice p.values.a x.values.length p.values.c, .slice p.counts.a x.counts.length p.counts.c, .int .i64 x.blanks] 42)) 42 [.string x.letters, .slice q.values.a x.values.length q.values.c, .slice q.counts.a x.counts.length q.counts.c, .int .i64 x.blanks]
    simp only [World.size_alloc] at this
    exact Lib.hid this
  have HA := Lib.hid ha; clear ha
  have HC := Lib.hid hc; clear hc
  have HW2 := Lib.hid hw2; clear hw2
  go_enter Try.func42, Try.ntmps42
  go_upto_region 1 with fail
  rw [← HW2.out]
  clear HW2
  have c0 := VA.out.cell (i := 0) rfl
  have d0 := VB.out.cell (i := 0) rfl
  have c1 := VA.out.cell (i := 1) rfl
  have d1 := VB.out.cell (i := 1) rfl
  have c2 := VA.out.cell (i := 2) rfl
  have d2 := VB.out.cell (i := 2) rfl
  have c3 := VA.out.cell (i := 3) rfl
  have d3 := VB.out.cell (i := 3) rfl
  go_wp2_with fail
  refine (eqInt64S_any x.values p.values.a q.values.a p.values.c q.values.c _ ((HA.out.1).kept hb) ((HC.out.1).kept hb) HF.out.2.1).mono ?_
  rintro e w3 ⟨rfl, hd⟩
  replace hb := hb.trans (hd.mono hb.size)
  replace c0 := cell_kept c0 hd
  replace d0 := cell_kept d0 hd
  replace c1 := cell_kept c1 hd
  replace d1 := cell_kept d1 hd
  replace c2 := cell_kept c2 hd
  replace d2 := cell_kept d2 hd
  replace c3 := cell_kept c3 hd
  replace d3 := cell_kept d3 hd
  clear hd
  go_wp2_with fail
  refine (eqInt64S_any x.counts p.counts.a q.counts.a p.counts.c q.counts.c _ ((HA.out.2).kept hb) ((HC.out.2).kept hb) HF.out.2.2).mono ?_
  rintro e w4 ⟨rfl, hd⟩
  replace hb := hb.trans (hd.mono hb.size)
  replace c0 := cell_kept c0 hd
  replace d0 := cell_kept d0 hd
  replace c1 := cell_kept c1 hd
  replace d1 := cell_kept d1 hd
  replace c2 := cell_kept c2 hd
  replace d2 := cell_kept d2 hd
  replace c3 := cell_kept c3 hd
  replace d3 := cell_kept d3 hd
  clear hd
  go_wp2
  go_ret
  exact ⟨rfl, hb⟩
end Go.Proofs.Ytalnbgcdhcnjfaa

namespace Go.Proofs.Ytalnbgcdhcnjfaa
open Go.ChangeShapes Go.WideShapes Go.ChangeAt Go.RowKit Go.Sort

theorem all_range_succ (f : Nat → Bool) (k : Nat) : (List.range (k + 1)).all f = ((List.range k).all f && f k) := by
  rw [List.range_succ, List.all_append]; simp
theorem all_range_no {f : Nat → Bool} {i n : Nat} (hi : i < n) (hf : f i = false) : (List.range n).all f = false := by
  rw [Bool.eq_false_iff]
  intro h
  have := List.all_eq_true.1 h i (List.mem_range.2 hi)
  rw [hf] at this
  cases this
theorem all_range_of {f : Nat → Bool} {n : Nat} (h : ∀ i, i < n → f i = true) : (List.range n).all f = true := List.all_eq_true.2 fun i hi => h i (List.mem_range.1 hi)
theorem all_range_get {f : Nat → Bool} {n : Nat} (h : (List.range n).all f = true) {i : Nat} (hi : i < n) : f i = true := List.all_eq_true.1 h i (List.mem_range.2 hi)
def lowAt (l : List UInt8) (i : Nat) : Bool := smallB ((l.getD i 0).toNat : Int)
/-- a byte is greater than the one before -/
def incB (l : List UInt8) (i : Nat) : Bool := decide (i = 0) || decide (((l.getD (i - 1) 0).toNat : Int) < ((l.getD i 0).toNat : Int))
def Tls.okAt (x : Tls) (i : Nat) : Bool := lowAt x.letters.data.toList i && (incB x.letters.data.toList i && (withinB (x.values.getD i 0) 0 20 && withinB (x.counts.getD i 0) 1 20))
def Tls.ok (x : Tls) : Bool :=
  withinB x.letters.size 1 26 && (decide (x.values.length = x.letters.size) && (decide (x.counts.length = x.letters.size) && (withinB x.blanks 0 4 && ((List.range x.letters.size).all x.okAt && decide (x.blanks + x.counts.sum ≤ 120)))))
theorem small_iff {c : Int} : smallB c = true ↔ 97 ≤ c ∧ c ≤ 122 := by unfold smallB; simp
/-- strictly increasing small letters: no more than 26 -/
theorem inc_26 {l : List UInt8} {n : Nat} (h1 : ∀ i, i < n → lowAt l i = true) (h2 : ∀ i, i < n → incB l i = true) : n ≤ 26 := by
  have h : ∀ i, i < n → (97 : Int) + i ≤ ((l.getD i 0).toNat : Int) := by
    intro i
    induction i with
    | zero => intro hi; have := (small_iff.1 (h1 0 hi)).1; omega
    | succ i ih =>
      intro hi
      have a := ih (by omega)
      have b := h2 (i + 1) hi
      unfold incB at b
      simp only [Bool.or_eq_true, decide_eq_true_eq, Nat.add_sub_cancel] at b
      omega
  by_cases hn : n ≤ 26
  · exact hn
  · have a := h 26 (by omega)
    have b := (small_iff.1 (h1 26 (by omega))).2
    omega
structure Tls.Good (x : Tls) : Prop where
  lo : 1 ≤ x.letters.size
  hi : x.letters.size ≤ 26
  values : x.values.length = x.letters.size
  counts : x.counts.length = x.letters.size
  range : ∀ i, i < x.letters.size → 0 ≤ x.values.getD i 0 ∧ x.values.getD i 0 ≤ 20
theorem Tls.good {x : Tls} (h : x.ok = true) : x.Good := by
  unfold Tls.ok at h
  simp only [Bool.and_eq_true, decide_eq_true_eq, within_iff] at h
  obtain ⟨h1, h2, h3, h4, h5, h6⟩ := h
  refine ⟨by omega, by omega, h2, h3, fun i hi => ?_⟩
  have := all_range_get h5 hi
  unfold Tls.okAt at this
  simp only [Bool.and_eq_true, within_iff] at this
  exact this.2.2.1
/-- the value of a letter -/
def Tls.val (x : Tls) (c : UInt8) : Int := if Lib.indexByte x.letters.data.toList c < 0 then 0 else x.values.getD (Lib.indexByte x.letters.data.toList c).toNat 0
theorem Tls.val_none {x : Tls} {c : UInt8} (h : Lib.indexByte x.letters.data.toList c < 0) : x.val c = 0 := by unfold Tls.val; rw [if_pos h]
theorem Tls.val_some {x : Tls} {c : UInt8} {k : Nat} (h : Lib.indexByte x.letters.data.toList c = k) : x.val c = x.values.getD k 0 := by
  unfold Tls.val
  rw [h, if_neg (by omega)]
  rfl
theorem indexByte_lt {l : List UInt8} {c : UInt8} {k : Nat} (h : Lib.indexByte l c = k) : k < l.length := by
  have := (Lib.indexByte_some h).1
  exact (List.getElem?_eq_some_iff.1 this).1
theorem Tls.Good.val_range {x : Tls} (h : x.Good) (c : UInt8) : 0 ≤ x.val c ∧ x.val c ≤ 20 := by
  have hg := Lib.indexByte_ge x.letters.data.toList c
  by_cases hn : Lib.indexByte x.letters.data.toList c < 0
  · rw [Tls.val_none hn]; omega
  · obtain ⟨k, hk⟩ := Int.eq_ofNat_of_zero_le (show 0 ≤ Lib.indexByte x.letters.data.toList c by omega)
    rw [Tls.val_some hk]
    have := indexByte_lt hk
    exact h.range k (by simpa using this)
/-- the first place of a byte, found from the left -/
theorem indexByte_at {l : List UInt8} {c : UInt8} {k : Nat} (hk : k < l.length) (h0 : ∀ j (hj : j < k), l[j]'(by omega) ≠ c) (h : l[k] = c) : Lib.indexByte l c = k := by
  have hge := Lib.indexByte_ge l c
  by_cases hn : Lib.indexByte l c = -1
  · exact absurd (by rw [List.getElem?_eq_getElem hk, h]) (Lib.indexByte_none hn k)
  · obtain ⟨j, hj⟩ := Int.eq_ofNat_of_zero_le (show 0 ≤ Lib.indexByte l c by omega)
    obtain ⟨e1, e2⟩ := Lib.indexByte_some hj
    by_cases h1 : j < k
    · obtain ⟨_, e3⟩ := List.getElem?_eq_some_iff.1 e1
      exact absurd e3 (h0 j h1)
    · by_cases h2 : k < j
      · exact absurd (by rw [List.getElem?_eq_getElem hk, h]) (e2 k h2)
      · rw [hj]; omega
theorem indexByte_out {l : List UInt8} {c : UInt8} (h0 : ∀ j (hj : j < l.length), l[j] ≠ c) : Lib.indexByte l c = -1 := by
  have hge := Lib.indexByte_ge l c
  by_cases hn : Lib.indexByte l c = -1
  · exact hn
  · obtain ⟨j, hj⟩ := Int.eq_ofNat_of_zero_le (show 0 ≤ Lib.indexByte l c by omega)
    obtain ⟨e1, _⟩ := Lib.indexByte_some hj
    obtain ⟨hl, e3⟩ := List.getElem?_eq_some_iff.1 e1
    exact absurd e3 (h0 j hl)
end Go.Proofs.Ytalnbgcdhcnjfaa

namespace Go.Proofs.Ytalnbgcdhcnjfaa
open Go.ChangeShapes Go.WideShapes Go.ChangeAt Go.RowKit Go.Sort

/-- a tile set lies at a block -/
def TAt (w : World) (g : Nat) (x : Tls) (q : TlA) : Prop :=
  (w.cell? ⟨g, 0, none⟩ = some (.string x.letters) ∧ w.cell? ⟨g, 1, none⟩ = some (.slice q.values.a x.values.length q.values.c) ∧ w.cell? ⟨g, 2, none⟩ = some (.slice q.counts.a x.counts.length q.counts.c) ∧ w.cell? ⟨g, 3, none⟩ = some (.int .i64 x.blanks)) ∧ x.At q w
theorem TAt.kept {w w' : World} {g : Nat} {x : Tls} {q : TlA} (h : TAt w g x q) (hb : Below w.heap.size w w') : TAt w' g x q :=
  ⟨⟨cell_kept h.1.1 hb, cell_kept h.1.2.1 hb, cell_kept h.1.2.2.1 hb, cell_kept h.1.2.2.2 hb⟩, h.2.kept hb⟩
theorem TAt.drew {w w' : World} {g : Nat} {x : Tls} {q : TlA} (h : TAt w g x q) (hb : Drew w w') : TAt w' g x q := h.kept (hb.below _)
theorem TAt.new (w : World) (x : Tls) (q : TlA) (t : TypeId) (h : x.At q w) : TAt (w.alloc (.cells #[.string x.letters, .slice q.values.a x.values.length q.values.c, .slice q.counts.a x.counts.length q.counts.c, .int .i64 x.blanks] t)) w.heap.size x q :=
  ⟨⟨cell_new0 w _ t rfl, cell_new0 w _ t rfl, cell_new0 w _ t rfl, cell_new0 w _ t rfl⟩, h.kept ((Below.refl _ _).alloc (Nat.le_refl _) _)⟩
theorem TAt.lt {w : World} {g : Nat} {x : Tls} {q : TlA} (h : TAt w g x q) : g < w.heap.size := block_lt h.1.1
/-- a number of a row of numbers -/
theorem num_cell {w : World} {a : Option Addr} {xs : List Int} (h : SliceAt w 1 I64.enc a xs) {k : Nat} (hk : k < xs.length) : ∃ b o, a = some ⟨b, o, none⟩ ∧ w.cell? ⟨b, o + k, none⟩ = some (.int .i64 (xs.getD k 0)) := by
  obtain ⟨b, o, rfl, hc⟩ := h.open hk
  have := hc.at0 hk (v := .int .i64 xs[k]) rfl
  rw [Nat.mul_one] at this
  refine ⟨b, o, rfl, ?_⟩
  rw [this, List.getD_eq_getElem?_getD, List.getElem?_eq_getElem hk]
  rfl
theorem byte_getD {s : ByteArray} {k : Nat} (h : k < s.size) : s.data.toList.getD k 0 = s[k] := by
  have hl : k < s.data.toList.length := by simpa using h
  rw [List.getD_eq_getElem?_getD, List.getElem?_eq_getElem hl]
  exact bytes_get s k h
end Go.Proofs.Ytalnbgcdhcnjfaa

namespace Go.Proofs.Ytalnbgcdhcnjfaa
open Go.ChangeShapes Go.WideShapes Go.ChangeAt Go.RowKit Go.Sort

theorem ok_no1 {x : Tls} (h : withinB x.letters.size 1 26 = false) : x.ok = false := by unfold Tls.ok; rw [h]; rfl
theorem ok_no2 {x : Tls} (h : ¬ x.values.length = x.letters.size) : x.ok = false := by unfold Tls.ok; rw [decide_eq_false h]; simp
theorem ok_no3 {x : Tls} (h : ¬ x.counts.length = x.letters.size) : x.ok = false := by unfold Tls.ok; rw [decide_eq_false h]; simp
theorem ok_no4 {x : Tls} (h : withinB x.blanks 0 4 = false) : x.ok = false := by unfold Tls.ok; rw [h]; simp
theorem ok_no5 {x : Tls} {k : Nat} (hk : k < x.letters.size) (h : x.okAt k = false) : x.ok = false := by unfold Tls.ok; rw [all_range_no hk h]; simp
theorem ok_yes {x : Tls} (h1 : withinB x.letters.size 1 26 = true) (h2 : x.values.length = x.letters.size) (h3 : x.counts.length = x.letters.size) (h4 : withinB x.blanks 0 4 = true) (h5 : ∀ i, i < x.letters.size → x.okAt i = true) : x.ok = decide (x.blanks + x.counts.sum ≤ 120) := by
  unfold Tls.ok
  rw [h1, decide_eq_true h2, decide_eq_true h3, h4, all_range_of h5]
  simp
theorem sum_take {xs : List Int} {k : Nat} (h : k < xs.length) : (xs.take (k + 1)).sum = (xs.take k).sum + xs.getD k 0 := by
  rw [List.take_succ_eq_append_getElem h, List.sum_append, List.getD_eq_getElem?_getD, List.getElem?_eq_getElem h]
  simp
end Go.Proofs.Ytalnbgcdhcnjfaa

namespace Go.Proofs.Ytalnbgcdhcnjfaa
open Go.ChangeShapes Go.WideShapes Go.ChangeAt Go.RowKit Go.Sort

/-- strictly increasing small letters -/
def risB (s : ByteArray) : Bool := (List.range s.size).all (incB s.data.toList) && s.data.toList.all (fun c => smallB c.toNat)
theorem ris_no {s : ByteArray} {k : Nat} (hk : k < s.size) (h : incB s.data.toList k = false) : risB s = false := by unfold risB; rw [all_range_no hk h]; rfl
theorem ris_end {s : ByteArray} (h : ∀ i, i < s.size → incB s.data.toList i = true) : risB s = s.data.toList.all (fun c => smallB c.toNat) := by unfold risB; rw [all_range_of h]; rfl
theorem low_all_range (s : ByteArray) : s.data.toList.all (fun c => smallB c.toNat) = (List.range s.size).all (lowAt s.data.toList) := by
  rw [Bool.eq_iff_iff, List.all_eq_true, List.all_eq_true]
  constructor
  · intro h i hi
    have hi := List.mem_range.1 hi
    unfold lowAt
    rw [byte_getD hi]
    exact h _ (by rw [← bytes_get s i hi]; exact List.getElem_mem _)
  · intro h c hc
    obtain ⟨i, hi, rfl⟩ := List.getElem_of_mem hc
    have hi2 : i < s.size := by simpa using hi
    have h1 := h i (List.mem_range.2 hi2)
    unfold lowAt at h1
    rw [byte_getD hi2] at h1
    rw [bytes_get s i hi2]
    exact h1
/-- the tests that the program makes, one behind the other -/
theorem ok_impl (x : Tls) : x.ok = (decide (1 ≤ x.letters.size) && (risB x.letters && (decide (x.values.length = x.letters.size) && (decide (x.counts.length = x.letters.size) && (withinB x.blanks 0 4 && ((List.range x.letters.size).all (fun i => withinB (x.values.getD i 0) 0 20 && withinB (x.counts.getD i 0) 1 20) && decide (x.blanks + x.counts.sum ≤ 120))))))) := by
  have hall : (List.range x.letters.size).all x.okAt = (risB x.letters && (List.range x.letters.size).all (fun i => withinB (x.values.getD i 0) 0 20 && withinB (x.counts.getD i 0) 1 20)) := by
    unfold risB
    rw [low_all_range, Bool.eq_iff_iff]
    simp only [Bool.and_eq_true, List.all_eq_true, List.mem_range, Tls.okAt]
    constructor
    · intro h
      exact ⟨⟨fun i hi => (h i hi).2.1, fun i hi => (h i hi).1⟩, fun i hi => (h i hi).2.2⟩
    · rintro ⟨⟨h1, h2⟩, h3⟩ i hi
      exact ⟨h2 i hi, h1 i hi, h3 i hi⟩
  by_cases hr : risB x.letters = true
  · have hn : x.letters.size ≤ 26 := by
      unfold risB at hr
      rw [low_all_range] at hr
      simp only [Bool.and_eq_true] at hr
      exact inc_26 (fun i hi => all_range_get hr.2 hi) (fun i hi => all_range_get hr.1 hi)
    unfold Tls.ok
    rw [hall, hr]
    have : withinB x.letters.size 1 26 = decide (1 ≤ x.letters.size) := by
      rw [Bool.eq_iff_iff, within_iff, decide_eq_true_eq]; omega
    rw [this]
    simp
  · have hr : risB x.letters = false := by simpa using hr
    unfold Tls.ok
    rw [hall, hr]
    simp
theorem impl_no {x : Tls} {a : Bool} {b : Bool} (h : x.ok = (a && b)) (ha : a = false) : x.ok = false := by rw [h, ha]; rfl
end Go.Proofs.Ytalnbgcdhcnjfaa
