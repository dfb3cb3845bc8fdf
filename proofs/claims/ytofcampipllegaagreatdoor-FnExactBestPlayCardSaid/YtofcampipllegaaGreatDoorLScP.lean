/- What comes in, read: a tile set. No condition beyond the form that the statements' frame gives. · The statement FnExactScorePlay: the program's score of a play is the reference's. Go's tables of unicode and unicode/utf8 hold what is laid (CEnv). · Contracts: the statements' own copy of a tile set, its rows in two blocks; its marks. No condition but that lengths are small. · The statement FnExactScoreParts: the program's parts of a score are the reference's. Go's tables of unicode and unicode/utf8 hold what is laid (CEnv). -/
import Derived.Test.YtofcampipllegaaGreatDoorFrame
import Derived.Test.YtofcampipllegaaGreatDoorTiC
import Derived.Test.YtofcampipllegaaGreatDoorScL
import Derived.Test.YtofcampipllegaaGreatDoorTx
import Derived.Test.YtofcampipllegaaGreatDoorCEnv
namespace Go.Proofs.YtofcampipllegaaGreatDoor
open Go.ChangeShapes Go.WideShapes Go.ChangeAt Go.RowKit Go.Sort Go.Joins Go.Deep
open Go.ChangeMaps (open_string shut_string)

section
variable {H : Type} {ec : TypeId × Value → H} {w : World} {base : Nat} {spare : Nat → Bool} {held : Bool}
set_option maxRecDepth 100000 in
theorem I64.read (m : Nat) (cs : List Value) (y : DataW H × List MemPlace) (h : DataW.trod ec Tryz.prog w base spare held m 2 cs = some y) : ∃ a : Int, cs = I64.enc a ∧ True := by
  obtain ⟨x1, e1, _, _⟩ := DataW.trod_int Tryz.underlying2 h
  exact ⟨x1, e1, trivial⟩
set_option maxRecDepth 100000 in
/-- A tile set that came in. -/
theorem TileSet.read {r : Reach} {b0 : Nat} {v : Value} {d : DataW H} {p : List MemPlace} (hv : Value.okWide Tryz.prog w r b0 24 v) (h : DataW.Trod ec Tryz.prog w base spare held 24 v d p) :
    ∃ (x : Tls) (q : TlA), v = .agg #[.string x.letters, .slice q.values.a x.values.length q.values.c, .slice q.counts.a x.counts.length q.counts.c, .int .i64 x.blanks] ∧ x.At q w ∧ x.fit := by
  obtain ⟨cs, rfl, fuel, x, hf⟩ := open_aggs Tryz.underlying24 hv h
  obtain ⟨hl, n, hg⟩ := struct_cells Tryz.underlying24 (by kernel_rfl) (by kernel_rfl) hf
  obtain ⟨v0, y0, h0, t0⟩ := hg 0 _ rfl
  obtain ⟨v1, y1, h1, t1⟩ := hg 1 _ rfl
  obtain ⟨v2, y2, h2, t2⟩ := hg 2 _ rfl
  obtain ⟨v3, y3, h3, t3⟩ := hg 3 _ rfl
  obtain ⟨s0, e0, _, b0⟩ := DataW.trod_string Tryz.underlying9 t0
  obtain ⟨a1, cap1, xs1, rfl, hs1, _, hl1⟩ := read_slice (sz := 1) (enc := I64.enc) (good := fun _ => True) Tryz.underlying22 (by kernel_rfl) (by decide) I64.read t1
  obtain ⟨a2, cap2, xs2, rfl, hs2, _, hl2⟩ := read_slice (sz := 1) (enc := I64.enc) (good := fun _ => True) Tryz.underlying22 (by kernel_rfl) (by decide) I64.read t2
  obtain ⟨x3, e3, _, b3⟩ := DataW.trod_int Tryz.underlying2 t3
  simp only [List.cons.injEq, and_true] at e0 e3
  subst e0 e3
  refine ⟨⟨s0, xs1, xs2, x3⟩, ⟨⟨a1, cap1⟩, ⟨a2, cap2⟩⟩, ?_, ⟨hs1, hs2⟩, by unfold maxLen at b0; (show s0.size ≤ _); omega, hl1, hl2⟩
  match cs, hl with
  | [c0, c1, c2, c3], _ =>
    simp only [List.getElem?_cons_zero, List.getElem?_cons_succ, Option.some.injEq] at h0 h1 h2 h3
    rw [h0, h1, h2, h3]
end
end Go.Proofs.YtofcampipllegaaGreatDoor

namespace Go.Proofs.YtofcampipllegaaGreatDoor
open Go.ChangeShapes Go.WideShapes Go.ChangeAt Go.RowKit Go.Sort

theorem score_parts (b : Brd) (p : Ply) (x : Tls) : ∃ s k : Int, ∀ w e w', ScorePost b p x w e w' → e = .returned (.tuple #[.int .i64 s, .int .i64 k]) ∧ Below w.heap.size w w' := by
  cases h : (x.ok && b.okPlay p) with
  | false => exact ⟨0, 1, fun w e w' hw => by unfold ScorePost at hw; rw [h] at hw; exact hw⟩
  | true => exact ⟨b.score p x, 0, fun w e w' hw => by unfold ScorePost at hw; rw [h] at hw; exact hw⟩
end Go.Proofs.YtofcampipllegaaGreatDoor

namespace Go.Proofs.YtofcampipllegaaGreatDoor
open Go.ChangeShapes Go.WideShapes Go.ChangeAt Go.RowKit Go.Sort

set_option maxRecDepth 100000 in
set_option maxHeartbeats 8000000 in
theorem toTileSetN_any (x : Tls) (p : TlA) (w : World) (ha : x.At p w) (hs : x.small) :
    Calls Tryz.prog 16 #[.agg #[.string x.letters, .slice p.values.a x.values.length p.values.c, .slice p.counts.a x.counts.length p.counts.c, .int .i64 x.blanks]] w fun e w' => ∃ q : TlA, e = .returned (.agg #[.string x.letters, .slice q.values.a x.values.length q.values.c, .slice q.counts.a x.counts.length q.counts.c, .int .i64 x.blanks]) ∧ x.Own q w.heap.size w' ∧ (∃ gv gc, q.values.a = some ⟨gv, 0, none⟩ ∧ q.counts.a = some ⟨gc, 0, none⟩ ∧ gv ≠ gc) ∧ Below w.heap.size w w' := by
  obtain ⟨w3, hw3⟩ : ∃ w3, w3 = ((w.alloc (.cells #[.string x.letters, .slice p.values.a x.values.length p.values.c, .slice p.counts.a x.counts.length p.counts.c, .int .i64 x.blanks] 24)).alloc (.cells #[.string ⟨#[]⟩, .slice none 0 0, .slice none 0 0, .int .i64 0] 33)).alloc (.cells #[.string ⟨#[]⟩, .slice none 0 0, .slice none 0 0, .int .i64 0] 33) := ⟨_, rfl⟩
  have hb : Below w.heap.size w w3 := by rw [hw3]; exact (((Below.refl _ _).alloc (Nat.le_refl _) _).alloc (by simp) _).alloc (by simp; omega) _
  have VI : Hid (VarAt w3 w.heap.size 24 [.string x.letters, .slice p.values.a x.values.length p.values.c, .slice p.counts.a x.counts.length p.counts.c, .int .i64 x.blanks]) := by
    rw [hw3]
    exact Lib.hid (((VarAt.new w 24 [.string x.letters, .slice p.values.a x.values.length p.values.c, .slice p.counts.a x.counts.length p.counts.c, .int .i64 x.blanks]).kept ((Below.refl _ _).alloc (Nat.le_refl _) _)).kept ((Below.refl _ _).alloc (Nat.le_refl _) _))
  have VR : Hid (VarAt w3 (w.heap.size + 1) 33 [.string ⟨#[]⟩, .slice none 0 0, .slice none 0 0, .int .i64 0]) := by
    rw [hw3]
    have := (VarAt.new (w.alloc (.cells #[.string x.letters, .slice p.values.a x.values.length p.values.c, .slice p.counts.a x.counts.length p.counts.c, .int .i64 x.blanks] 24)) 33 [.string ⟨#[]⟩, .slice none 0 0, .slice none 0 0, .int .i64 0]).kept ((Below.refl _ _).alloc (Nat.le_refl _) (.cells #[.string ⟨#[]⟩, .slice none 0 0, .slice none 0 0, .int .i64 0] 33))
    simp only [World.size_alloc] at this
    exact Lib.hid this
  have VO : Hid (VarAt w3 (w.heap.size + 1 + 1) 33 [.string ⟨#[]⟩, .slice none 0 0, .slice none 0 0, .int .i64 0]) := by
    rw [hw3]
    have := VarAt.new ((w.alloc (.cells #[.string x.letters, .slice p.values.a x.values.length p.values.c, .slice p.counts.a x.counts.length p.counts.c, .int .i64 x.blanks] 24)).alloc (.cells #[.string ⟨#[]⟩, .slice none 0 0, .slice none 0 0, .int .i64 0] 33)) 33 [.string ⟨#[]⟩, .slice none 0 0, .slice none 0 0, .int .i64 0]
    simp only [World.size_alloc] at this
    exact Lib.hid this
  have HW3 := Lib.hid hw3; clear hw3
  have HA := Lib.hid ha; clear ha
  have HS := Lib.hid hs; clear hs
  go_enter Tryz.func16, Tryz.ntmps16
  go_upto_region 2 with fail
  rw [← HW3.out]
  clear HW3
  have c0 := VI.out.cell (i := 0) rfl
  have d0 := VO.out.cell (i := 0) rfl
  have f0 := VO.out.free 0
  go_upto_region 3 with fail
  clear d0 f0 c0
  obtain ⟨o0, k0⟩ := VO.out.set 0 (.string x.letters)
  have GG := k0
  have o9 := Lib.hid o0
  clear VO o0 k0
  have VO := o9; clear o9
  replace VI := Lib.hid (VI.out.grown GG (by simp; try omega))
  replace VR := Lib.hid (VR.out.grown GG (by simp; try omega))
  replace hb := hb.grown GG hb.size (fun q h => by cases h; omega)
  clear GG
  generalize (w3.setCell ⟨w.heap.size + 1 + 1, 0, none⟩ (.string x.letters)) = w4 at *
  have c1 := VI.out.cell (i := 1) rfl
  go_wp2_with fail
  refine (toInt64S_any x.values p.values.a p.values.c _ ((HA.out.1).kept hb) HS.out.1).mono ?_
  rintro e w5 ⟨r_values, rfl, ho, hd⟩
  have O_values := Lib.hid (own_mono ho (show w.heap.size + 1 + 1 + 1 ≤ _ from VO.out.lt)); clear ho
  replace VI := Lib.hid (VI.out.kept hd)
  replace VR := Lib.hid (VR.out.kept hd)
  replace VO := Lib.hid (VO.out.kept hd)
  replace hb := hb.trans (hd.mono hb.size)
  clear hd c1
  have d1 := VO.out.cell (i := 1) rfl
  have f1 := VO.out.free 1
  go_upto_region 4 with fail
  clear d1 f1
  obtain ⟨o0, k0⟩ := VO.out.set 1 (.slice (some ⟨r_values, 0, none⟩) x.values.length x.values.length)
  have GG := k0
  have o9 := Lib.hid o0
  clear VO o0 k0
  have VO := o9; clear o9
  replace VI := Lib.hid (VI.out.grown GG (by simp; try omega))
  replace VR := Lib.hid (VR.out.grown GG (by simp; try omega))
  replace hb := hb.grown GG hb.size (fun q h => by cases h; omega)
  replace O_values := Lib.hid (row_store O_values.out GG (by omega))
  clear GG
  generalize (w5.setCell ⟨w.heap.size + 1 + 1, 1, none⟩ (.slice (some ⟨r_values, 0, none⟩) x.values.length x.values.length)) = w6 at *
  have c2 := VI.out.cell (i := 2) rfl
  go_wp2_with fail
  refine (toInt64S_any x.counts p.counts.a p.counts.c _ ((HA.out.2).kept hb) HS.out.2).mono ?_
  rintro e w7 ⟨r_counts, rfl, ho, hd⟩
  have hvc : r_values ≠ r_counts := by
    have h1 := (O_values.out.lt r_values rfl).2
    have h2 := (ho.lt r_counts rfl).1
    omega
  have O_counts := Lib.hid (own_mono ho (show w.heap.size + 1 + 1 + 1 ≤ _ from VO.out.lt)); clear ho
  replace O_values := Lib.hid (own_below O_values.out hd)
  replace VI := Lib.hid (VI.out.kept hd)
  replace VR := Lib.hid (VR.out.kept hd)
  replace VO := Lib.hid (VO.out.kept hd)
  replace hb := hb.trans (hd.mono hb.size)
  clear hd c2
  have d2 := VO.out.cell (i := 2) rfl
  have f2 := VO.out.free 2
  go_upto_region 5 with fail
  clear d2 f2
  obtain ⟨o0, k0⟩ := VO.out.set 2 (.slice (some ⟨r_counts, 0, none⟩) x.counts.length x.counts.length)
  have GG := k0
  have o9 := Lib.hid o0
  clear VO o0 k0
  have VO := o9; clear o9
  replace VI := Lib.hid (VI.out.grown GG (by simp; try omega))
  replace VR := Lib.hid (VR.out.grown GG (by simp; try omega))
  replace hb := hb.grown GG hb.size (fun q h => by cases h; omega)
  replace O_values := Lib.hid (row_store O_values.out GG (by omega))
  replace O_counts := Lib.hid (row_store O_counts.out GG (by omega))
  clear GG
  generalize (w7.setCell ⟨w.heap.size + 1 + 1, 2, none⟩ (.slice (some ⟨r_counts, 0, none⟩) x.counts.length x.counts.length)) = w8 at *
  have c3 := VI.out.cell (i := 3) rfl
  have d3 := VO.out.cell (i := 3) rfl
  have f3 := VO.out.free 3
  go_upto_region 6 with fail
  clear d3 f3 c3
  obtain ⟨o0, k0⟩ := VO.out.set 3 (.int .i64 x.blanks)
  have GG := k0
  have o9 := Lib.hid o0
  clear VO o0 k0
  have VO := o9; clear o9
  replace VI := Lib.hid (VI.out.grown GG (by simp; try omega))
  replace VR := Lib.hid (VR.out.grown GG (by simp; try omega))
  replace hb := hb.grown GG hb.size (fun q h => by cases h; omega)
  replace O_values := Lib.hid (row_store O_values.out GG (by omega))
  replace O_counts := Lib.hid (row_store O_counts.out GG (by omega))
  clear GG
  generalize (w8.setCell ⟨w.heap.size + 1 + 1, 3, none⟩ (.int .i64 x.blanks)) = w9 at *
  have t0 := VO.out.cell (i := 0) (v := .string x.letters) rfl
  have u0 := VR.out.cell (i := 0) rfl
  have f0 := VR.out.free 0
  have t1 := VO.out.cell (i := 1) (v := .slice (some ⟨r_values, 0, none⟩) x.values.length x.values.length) rfl
  have u1 := VR.out.cell (i := 1) rfl
  have f1 := VR.out.free 1
  have t2 := VO.out.cell (i := 2) (v := .slice (some ⟨r_counts, 0, none⟩) x.counts.length x.counts.length) rfl
  have u2 := VR.out.cell (i := 2) rfl
  have f2 := VR.out.free 2
  have t3 := VO.out.cell (i := 3) (v := .int .i64 x.blanks) rfl
  have u3 := VR.out.cell (i := 3) rfl
  have f3 := VR.out.free 3
  obtain ⟨o0, k0⟩ := VR.out.set 0 (.string x.letters)
  obtain ⟨o1, k1⟩ := o0.set 1 (.slice (some ⟨r_values, 0, none⟩) x.values.length x.values.length)
  obtain ⟨o2, k2⟩ := o1.set 2 (.slice (some ⟨r_counts, 0, none⟩) x.counts.length x.counts.length)
  obtain ⟨o3, k3⟩ := o2.set 3 (.int .i64 x.blanks)
  have GG := (grownBy_trans (grownBy_trans (grownBy_trans k0 k1) k2) k3)
  have hb9 := hb.grown GG hb.size (fun q h => by cases h; omega)
  have e0 := o3.cell (i := 0) (v := .string x.letters) rfl
  have e1 := o3.cell (i := 1) (v := .slice (some ⟨r_values, 0, none⟩) x.values.length x.values.length) rfl
  have e2 := o3.cell (i := 2) (v := .slice (some ⟨r_counts, 0, none⟩) x.counts.length x.counts.length) rfl
  have e3 := o3.cell (i := 3) (v := .int .i64 x.blanks) rfl
  replace O_values := Lib.hid (row_store O_values.out GG (by omega))
  replace O_counts := Lib.hid (row_store O_counts.out GG (by omega))
  clear GG VI VR VO hb o0 k0 o1 k1 o2 k2 o3 k3
  go_wp2
  refine bodyPost_ret (v := .agg #[.string x.letters, .slice (some ⟨r_values, 0, none⟩) x.values.length x.values.length, .slice (some ⟨r_counts, 0, none⟩) x.counts.length x.counts.length, .int .i64 x.blanks]) (by simp [results, Tryz.results16, go_sem, e0, e1, e2, e3]) rfl ?_
  exact ⟨⟨⟨some ⟨r_values, 0, none⟩, x.values.length⟩, ⟨some ⟨r_counts, 0, none⟩, x.counts.length⟩⟩, rfl, ⟨own_mono O_values.out (by omega), own_mono O_counts.out (by omega)⟩, ⟨r_values, r_counts, rfl, rfl, hvc⟩, hb9⟩
set_option maxHeartbeats 1000000 in
theorem markTileSet_any (x : Tls) (q : TlA) (gv gc base : Nat) (c0 : Int) (w : World) (ho : x.Own q base w) (hv : q.values.a = some ⟨gv, 0, none⟩) (hc : q.counts.a = some ⟨gc, 0, none⟩) (hne : gv ≠ gc) (hsm : x.small) (h0 : 0 ≤ c0) (h1 : c0 ≤ 1048576) :
    Calls Tryz.prog 150 #[.agg #[.string x.letters, .slice q.values.a x.values.length q.values.c, .slice q.counts.a x.counts.length q.counts.c, .int .i64 x.blanks], .int .i64 c0] w fun e w' => e = .returned (.int .i64 (c0 + x.values.length + x.counts.length)) ∧ ∃ wz wa, Below w.heap.size w wz ∧ wz.grownBy wa (some gv) ∧ wa.grownBy w' (some gc) := by
  obtain ⟨hs1, hs2⟩ := hsm
  have hb : Below w.heap.size w (w.alloc (.cells #[.string x.letters, .slice q.values.a x.values.length q.values.c, .slice q.counts.a x.counts.length q.counts.c, .int .i64 x.blanks] 33)) := (Below.refl _ _).alloc (Nat.le_refl _) _
  have VT := Lib.hid (VarAt.new w 33 [.string x.letters, .slice q.values.a x.values.length q.values.c, .slice q.counts.a x.counts.length q.counts.c, .int .i64 x.blanks])
  generalize hw1 : w.alloc (.cells #[.string x.letters, .slice q.values.a x.values.length q.values.c, .slice q.counts.a x.counts.length q.counts.c, .int .i64 x.blanks] 33) = w1 at hb VT
  have hz : w1.heap.size = w.heap.size + 1 := by rw [← hw1]; simp
  have HW1 := Lib.hid hw1
  have hgv := (ho.1.lt gv (by rw [hv]; rfl)).2
  have hgc := (ho.2.lt gc (by rw [hc]; rfl)).2
  have HO1 := Lib.hid (own_below ho.1 hb)
  have HO2 := Lib.hid (own_below ho.2 hb)
  rw [hv] at HO1
  rw [hc] at HO2
  have HV := Lib.hid hv
  have HC := Lib.hid hc
  clear ho hv hc hw1
  go_enter Tryz.func150, Tryz.ntmps150
  go_upto_region 1 with fail
  rw [HW1.out]
  have c1 := VT.out.cell (i := 1) rfl
  rw [HV.out] at c1
  go_wp2_with fail
  refine (markInt64S_any x.values _ q.values.c base c0 _ HO1.out (by omega) h0 (by omega)).mono ?_
  rintro e w2 ⟨rfl, hr, hg⟩
  have hg2 : w1.grownBy w2 (some gv) := hg
  clear c1 hr hg
  replace VT := Lib.hid (VT.out.grown hg2 (by simp; omega))
  replace HO2 := Lib.hid (HO2.out.kept hg2 (.inr (by simp [Value.ownBlock]; omega)))
  have c2 := VT.out.cell (i := 2) rfl
  rw [HC.out] at c2
  go_wp2_with fail
  refine (markInt64S_any x.counts _ q.counts.c base (c0 + x.values.length) _ HO2.out (by omega) (by omega) (by omega)).mono ?_
  rintro e w3 ⟨rfl, hr, hg⟩
  have hg3 : w2.grownBy w3 (some gc) := hg
  clear c2 hr hg
  go_wp2
  go_ret
  exact ⟨rfl, _, _, hb, hg2, hg3⟩
end Go.Proofs.YtofcampipllegaaGreatDoor

namespace Go.Proofs.YtofcampipllegaaGreatDoor
open Go.ChangeShapes Go.WideShapes Go.ChangeAt Go.RowKit Go.Sort

/-- numbers in a row of the call's own, and a code -/
def IP (ms : List Int) (k : Int) (w : World) (e : Ending) (w' : World) : Prop :=
  ∃ a cap, e = .returned (.tuple #[.slice a ms.length cap, .int .i64 k]) ∧ w'.ownsRow w.heap.size 2 1 (.slice a ms.length cap) ms.length (ms.flatMap I64.enc) ∧ Below w.heap.size w w'
theorem parts_parts (b : Brd) (p : Ply) (x : Tls) : ∃ (ms : List Int) (k : Int), ms.length ≤ 13 ∧ ∀ w e w', PartsPost b p x w e w' → IP ms k w e w' := by
  cases h : (x.ok && b.okPlay p) with
  | false =>
    refine ⟨[], 1, by simp, fun w e w' hw => ?_⟩
    unfold PartsPost at hw
    rw [h] at hw
    obtain ⟨rfl, hd⟩ := hw
    exact ⟨none, 0, rfl, ⟨by simp, .inl ⟨rfl, rfl⟩⟩, hd⟩
  | true =>
    obtain ⟨n, hg⟩ := okPlay_good (Bool.and_eq_true _ _ ▸ h).2
    refine ⟨b.parts p x, 0, parts_len13 hg x, fun w e w' hw => ?_⟩
    unfold PartsPost at hw
    rw [h] at hw
    obtain ⟨g, cap, rfl, ho, hd⟩ := hw
    exact ⟨some ⟨g, 0, none⟩, cap, rfl, ho, hd⟩
end Go.Proofs.YtofcampipllegaaGreatDoor
