/- What comes in, read: a tile set. No condition beyond the form that the statements' frame gives. · The statement FnExactScorePlay: the program's score of a play is the reference's. Go's tables of unicode and unicode/utf8 hold what is laid (CEnv). · Contracts: the statements' own copy of a tile set, its rows in two blocks; its marks. No condition but that lengths are small. · The statement FnExactScoreParts: the program's parts of a score are the reference's. Go's tables of unicode and unicode/utf8 hold what is laid (CEnv). -/
import Derived.Test.YtpkadgibfmjmcaaGreatDoorFrame
import Derived.Test.YtpkadgibfmjmcaaGreatDoorTTile
import Derived.Test.YtpkadgibfmjmcaaGreatDoorScL
import Derived.Test.YtpkadgibfmjmcaaGreatDoorTBoard
import Derived.Test.YtpkadgibfmjmcaaGreatDoorTPlay
import Derived.Test.YtpkadgibfmjmcaaGreatDoorCEnv
import Derived.Test.YtpkadgibfmjmcaaGreatDoorTInt
namespace Go.Proofs.YtpkadgibfmjmcaaGreatDoor
open Go.ChangeShapes Go.WideShapes Go.ChangeAt Go.RowKit Go.Sort Go.Joins Go.Deep
open Go.ChangeMaps (open_string shut_string)

section
variable {H : Type} {ec : TypeId × Value → H} {w : World} {base : Nat} {spare : Nat → Bool} {held : Bool}
set_option maxRecDepth 100000 in
theorem I64.read (m : Nat) (cs : List Value) (y : DataW H × List MemPlace) (h : DataW.trod ec Tryz.prog w base spare held m 2 cs = some y) : ∃ a : Int, cs = I64.enc a ∧ True := by
  obtain ⟨x1, e1, _, _⟩ := DataW.trod_int Tryz.underlying2 h
  exact ⟨x1, e1, trivial⟩
set_option maxRecDepth 100000 in
/-- A tile set that came in. -/
theorem TileSet.read {r : Reach} {b0 : Nat} {v : Value} {d : DataW H} {p : List MemPlace} (hv : Value.okWide Tryz.prog w r b0 24 v) (h : DataW.Trod ec Tryz.prog w base spare held 24 v d p) :
    ∃ (x : Tls) (q : TlA), v = .agg #[.string x.letters, .slice q.values.a x.values.length q.values.c, .slice q.counts.a x.counts.length q.counts.c, .int .i64 x.blanks] ∧ x.At q w ∧ x.fit := by
  obtain ⟨cs, rfl, fuel, x, hf⟩ := open_aggs Tryz.underlying24 hv h
  obtain ⟨hl, n, hg⟩ := struct_cells Tryz.underlying24 (by kernel_rfl) (by kernel_rfl) hf
  obtain ⟨v0, y0, h0, t0⟩ := hg 0 _ rfl
  obtain ⟨v1, y1, h1, t1⟩ := hg 1 _ rfl
  obtain ⟨v2, y2, h2, t2⟩ := hg 2 _ rfl
  obtain ⟨v3, y3, h3, t3⟩ := hg 3 _ rfl
  obtain ⟨s0, e0, _, b0⟩ := DataW.trod_string Tryz.underlying9 t0
  obtain ⟨a1, cap1, xs1, rfl, hs1, _, hl1⟩ := read_slice (sz := 1) (enc := I64.enc) (good := fun _ => True) Tryz.underlying22 (by kernel_rfl) (by decide) I64.read t1
  obtain ⟨a2, cap2, xs2, rfl, hs2, _, hl2⟩ := read_slice (sz := 1) (enc := I64.enc) (good := fun _ => True) Tryz.underlying22 (by kernel_rfl) (by decide) I64.read t2
  obtain ⟨x3, e3, _, b3⟩ := DataW.trod_int Tryz.underlying2 t3
  simp only [List.cons.injEq, and_true] at e0 e3
  subst e0 e3
  refine ⟨⟨s0, xs1, xs2, x3⟩, ⟨⟨a1, cap1⟩, ⟨a2, cap2⟩⟩, ?_, ⟨hs1, hs2⟩, by unfold maxLen at b0; (show s0.size ≤ _); omega, hl1, hl2⟩
  match cs, hl with
  | [c0, c1, c2, c3], _ =>
    simp only [List.getElem?_cons_zero, List.getElem?_cons_succ, Option.some.injEq] at h0 h1 h2 h3
    rw [h0, h1, h2, h3]
end
end Go.Proofs.YtpkadgibfmjmcaaGreatDoor

namespace Go.Proofs.YtpkadgibfmjmcaaGreatDoor
open Go.ChangeShapes Go.WideShapes Go.ChangeAt Go.RowKit Go.Sort

theorem score_parts (b : Brd) (p : Ply) (x : Tls) : ∃ s k : Int, ∀ w e w', ScorePost b p x w e w' → e = .returned (.tuple #[.int .i64 s, .int .i64 k]) ∧ Below w.heap.size w w' := by
  cases h : (x.ok && b.okPlay p) with
  | false => exact ⟨0, 1, fun w e w' hw => by unfold ScorePost at hw; rw [h] at hw; exact hw⟩
  | true => exact ⟨b.score p x, 0, fun w e w' hw => by unfold ScorePost at hw; rw [h] at hw; exact hw⟩
end Go.Proofs.YtpkadgibfmjmcaaGreatDoor

namespace Go.Proofs.YtpkadgibfmjmcaaGreatDoor
open Go.ChangeShapes Go.WideShapes Go.ChangeAt Go.RowKit Go.Sort

set_option maxRecDepth 100000 in
set_option maxHeartbeats 8000000 in
theorem toTileSetN_any (x : Tls) (p : TlA) (w : World) (ha : x.At p w) (hs : x.small) :
    Calls Tryz.prog 14 #[.agg #[.string x.letters, .slice p.values.a x.values.length p.values.c, .slice p.counts.a x.counts.length p.counts.c, .int .i64 x.blanks]] w fun e w' => ∃ q : TlA, e = .returned (.agg #[.string x.letters, .slice q.values.a x.values.length q.values.c, .slice q.counts.a x.counts.length q.counts.c, .int .i64 x.blanks]) ∧ x.Own q w.heap.size w' ∧ (∃ gv gc, q.values.a = some ⟨gv, 0, none⟩ ∧ q.counts.a = some ⟨gc, 0, none⟩ ∧ gv ≠ gc) ∧ Below w.heap.size w w' := by
  obtain ⟨w3, hw3⟩ : ∃ w3, w3 = ((w.alloc (.cells #[.string x.letters, .slice p.values.a x.values.length p.values.c, .slice p.counts.a x.counts.length p.counts.c, .int .i64 x.blanks] 24)).alloc (.cells #[.string ⟨#[]⟩, .slice none 0 0, .slice none 0 0, .int .i64 0] 34)).alloc (.cells #[.string ⟨#[]⟩, .slice none 0 0, .slice none 0 0, .int .i64 0] 34) := ⟨_, rfl⟩
  have hb : Below w.heap.size w w3 := by rw [hw3]; exact (((Below.refl _ _).alloc (Nat.le_refl _) _).alloc (by simp) _).alloc (by simp; omega) _
  have VI : Hid (VarAt w3 w.heap.size 24 [.string x.letters, .slice p.values.a x.values.length p.values.c, .slice p.counts.a x.counts.length p.counts.c, .int .i64 x.blanks]) := by
    rw [hw3]
    exact Lib.hid (((VarAt.new w 24 [.string x.letters, .slice p.values.a x.values.length p.values.c, .slice p.counts.a x.counts.length p.counts.c, .int .i64 x.blanks]).kept ((Below.refl _ _).alloc (Nat.le_refl _) _)).kept ((Below.refl _ _).alloc (Nat.le_refl _) _))
  have VR : Hid (VarAt w3 (w.heap.size + 1) 34 [.string ⟨#[]⟩, .slice none 0 0, .slice none 0 0, .int .i64 0]) := by
    rw [hw3]
    have := (VarAt.new (w.alloc (.cells #[.string x.letters, .slice p.values.a x.values.length p.values.c, .slice p.counts.a x.counts.length p.counts.c, .int .i64 x.blanks] 24)) 34 [.string ⟨#[]⟩, .slice none 0 0, .slice none 0 0, .int .i64 0]).kept ((Below.refl _ _).alloc (Nat.le_refl _) (.cells #[.string ⟨#[]⟩, .slice none 0 0, .slice none 0 0, .int .i64 0] 34))
    simp only [World.size_alloc] at this
    exact Lib.hid this
  have VO : Hid (VarAt w3 (w.heap.size + 1 + 1) 34 [.string ⟨#[]⟩, .slice none 0 0, .slice none 0 0, .int .i64 0]) := by
    rw [hw3]
    have := VarAt.new ((w.alloc (.cells #[.string x.letters, .slice p.values.a x.values.length p.values.c, .slice p.counts.a x.counts.length p.counts.c, .int .i64 x.blanks] 24)).alloc (.cells #[.string ⟨#[]⟩, .slice none 0 0, .slice none 0 0, .int .i64 0] 34)) 34 [.string ⟨#[]⟩, .slice none 0 0, .slice none 0 0, .int .i64 0]
    simp only [World.size_alloc] at this
    exact Lib.hid this
  have HW3 := Lib.hid hw3; clear hw3
  have HA := Lib.hid ha; clear ha
  have HS := Lib.hid hs; clear hs
  go_enter Tryz.func14, Tryz.ntmps14
  go_upto_region 2 with fail
  rw [← HW3.out]
  clear HW3
  have c0 := VI.out.cell (i := 0) rfl
  have d0 := VO.out.cell (i := 0) rfl
  have f0 := VO.out.free 0
  go_upto_region 3 with fail
  clear d0 f0 c0
  obtain ⟨o0, k0⟩ := VO.out.set 0 (.string x.letters)
  have GG := k0
  have o9 := Lib.hid o0
  clear VO o0 k0
  have VO := o9; clear o9
  replace VI := Lib.hid (VI.out.grown GG (by simp; try omega))
  replace VR := Lib.hid (VR.out.grown GG (by simp; try omega))
  replace hb := hb.grown GG hb.size (fun q h => by cases h; omega)
  clear GG
  generalize (w3.setCell ⟨w.heap.size + 1 + 1, 0, none⟩ (.string x.letters)) = w4 at *
  have c1 := VI.out.cell (i := 1) rfl
  go_wp2_with fail
  refine (toInt64S_any x.values p.values.a p.values.c _ ((HA.out.1).kept hb) HS.out.1).mono ?_
  rintro e w5 ⟨r_values, rfl, ho, hd⟩
  have O_values := Lib.hid (own_mono ho (show w.heap.size + 1 + 1 + 1 ≤ _ from VO.out.lt)); clear ho
  replace VI := Lib.hid (VI.out.kept hd)
  replace VR := Lib.hid (VR.out.kept hd)
  replace VO := Lib.hid (VO.out.kept hd)
  replace hb := hb.trans (hd.mono hb.size)
  clear hd c1
  have d1 := VO.out.cell (i := 1) rfl
  have f1 := VO.out.free 1
  go_upto_region 4 with fail
  clear d1 f1
  obtain ⟨o0, k0⟩ := VO.out.set 1 (.slice (some ⟨r_values, 0, none⟩) x.values.length x.values.length)
  have GG := k0
  have o9 := Lib.hid o0
  clear VO o0 k0
  have VO := o9; clear o9
  replace VI := Lib.hid (VI.out.grown GG (by simp; try omega))
  replace VR := Lib.hid (VR.out.grown GG (by simp; try omega))
  replace hb := hb.grown GG hb.size (fun q h => by cases h; omega)
  replace O_values := Lib.hid (row_store O_values.out GG (by omega))
  clear GG
  generalize (w5.setCell ⟨w.heap.size + 1 + 1, 1, none⟩ (.slice (some ⟨r_values, 0, none⟩) x.values.length x.values.length)) = w6 at *
  have c2 := VI.out.cell (i := 2) rfl
  go_wp2_with fail
  refine (toInt64S_any x.counts p.counts.a p.counts.c _ ((HA.out.2).kept hb) HS.out.2).mono ?_
  rintro e w7 ⟨r_counts, rfl, ho, hd⟩
  have hvc : r_values ≠ r_counts := by
    have h1 := (O_values.out.lt r_values rfl).2
    have h2 := (ho.lt r_counts rfl).1
    omega
  have O_counts := Lib.hid (own_mono ho (show w.heap.size + 1 + 1 + 1 ≤ _ from VO.out.lt)); clear ho
  replace O_values := Lib.hid (own_below O_values.out hd)
  replace VI := Lib.hid (VI.out.kept hd)
  replace VR := Lib.hid (VR.out.kept hd)
  replace VO := Lib.hid (VO.out.kept hd)
  replace hb := hb.trans (hd.mono hb.size)
  clear hd c2
  have d2 := VO.out.cell (i := 2) rfl
  have f2 := VO.out.free 2
  go_upto_region 5 with fail
  clear d2 f2
  obtain ⟨o0, k0⟩ := VO.out.set 2 (.slice (some ⟨r_counts, 0, none⟩) x.counts.length x.counts.length)
  have GG := k0
  have o9 := Lib.hid o0
  clear VO o0 k0
  have VO := o9; clear o9
  replace VI := Lib.hid (VI.out.grown GG (by simp; try omega))
  replace VR := Lib.hid (VR.out.grown GG (by simp; try omega))
  replace hb := hb.grown GG hb.size (fun q h => by cases h; omega)
  replace O_values := Lib.hid (row_store O_values.out GG (by omega))
  replace O_counts := Lib.hid (row_store O_counts.out GG (by omega))
  clear GG
  generalize (w7.setCell ⟨w.heap.size + 1 + 1, 2, none⟩ (.slice (some ⟨r_counts, 0, none⟩) x.counts.length x.counts.length)) = w8 at *
  have c3 := VI.out.cell (i := 3) rfl
  have d3 := VO.out.cell (i := 3) rfl
  have f3 := VO.out.free 3
  go_upto_region 6 with fail
  clear d3 f3 c3
  obtain ⟨o0, k0⟩ := VO.out.set 3 (.int .i64 x.blanks)
  have GG := k0
  have o9 := Lib.hid o0
  clear VO o0 k0
  have VO := o9; clear o9
  replace VI := Lib.hid (VI.out.grown GG (by simp; try omega))
  replace VR := Lib.hid (VR.out.grown GG (by simp; try omega))
  replace hb := hb.grown GG hb.size (fun q h => by cases h; omega)
  replace O_values := Lib.hid (row_store O_values.out GG (by omega))
  replace O_counts := Lib.hid (row_store O_counts.out GG (by omega))
  clear GG
  generalize (w8.setCell ⟨w.heap.size + 1 + 1, 3, none⟩ (.int .i64 x.blanks)) = w9 at *
  have t0 := VO.out.cell (i := 0) (v := .string x.letters) rfl
  have u0 := VR.out.cell (i := 0) rfl
  have f0 := VR.out.free 0
  have t1 := VO.out.cell (i := 1) (v := .slice (some ⟨r_values, 0, none⟩) x.values.length x.values.length) rfl
  have u1 := VR.out.cell (i := 1) rfl
  have f1 := VR.out.free 1
  have t2 := VO.out.cell (i := 2) (v := .slice (some ⟨r_counts, 0, none⟩) x.counts.length x.counts.length) rfl
  have u2 := VR.out.cell (i := 2) rfl
  have f2 := VR.out.free 2
  have t3 := VO.out.cell (i := 3) (v := .int .i64 x.blanks) rfl
  have u3 := VR.out.cell (i := 3) rfl
  have f3 := VR.out.free 3
  obtain ⟨o0, k0⟩ := VR.out.set 0 (.string x.letters)
  obtain ⟨o1, k1⟩ := o0.set 1 (.slice (some ⟨r_values, 0, none⟩) x.values.length x.values.length)
  obtain ⟨o2, k2⟩ := o1.set 2 (.slice (some ⟨r_counts, 0, none⟩) x.counts.length x.counts.length)
  obtain ⟨o3, k3⟩ := o2.set 3 (.int .i64 x.blanks)
  have GG := (grownBy_trans (grownBy_trans (grownBy_trans k0 k1) k2) k3)
  have hb9 := hb.grown GG hb.size (fun q h => by cases h; omega)
  have e0 := o3.cell (i := 0) (v := .string x.letters) rfl
  have e1 := o3.cell (i := 1) (v := .slice (some ⟨r_values, 0, none⟩) x.values.length x.values.length) rfl
  have e2 := o3.cell (i := 2) (v := .slice (some ⟨r_counts, 0, none⟩) x.counts.length x.counts.length) rfl
  have e3 := o3.cell (i := 3) (v := .int .i64 x.blanks) rfl
  replace O_values := Lib.hid (row_store O_values.out GG (by omega))
  replace O_counts := Lib.hid (row_store O_counts.out GG (by omega))
  clear GG VI VR VO hb o0 k0 o1 k1 o2 k2 o3 k3
  go_wp2
  refine bodyPost_ret (v := .agg #[.string x.letters, .slice (some ⟨r_values, 0, none⟩) x.values.length x.values.length, .slice (some ⟨r_counts, 0, none⟩) x.counts.length x.counts.length, .int .i64 x.blanks]) (by simp [results, Tryz.results14, go_sem, e0, e1, e2, e3]) rfl ?_
  exact ⟨⟨⟨some ⟨r_values, 0, none⟩, x.values.length⟩, ⟨some ⟨r_counts, 0, none⟩, x.counts.length⟩⟩, rfl, ⟨own_mono O_values.out (by omega), own_mono O_counts.out (by omega)⟩, ⟨r_values, r_counts, rfl, rfl, hvc⟩, hb9⟩
set_option maxHeartbeats 1000000 in
theorem markTileSet_any (x : Tls) (q : TlA) (gv gc base : Nat) (c0 : Int) (w : World) (ho : x.Own q base w) (hv : q.values.a = some ⟨gv, 0, none⟩) (hc : q.counts.a = some ⟨gc, 0, none⟩) (hne : gv ≠ gc) (hsm : x.small) (h0 : 0 ≤ c0) (h1 : c0 ≤ 1048576) :
    Calls Tryz.prog 20 #[.agg #[.string x.letters, .slice q.values.a x.values.length q.values.c, .slice q.counts.a x.counts.length q.counts.c, .int .i64 x.blanks], .int .i64 c0] w fun e w' => e = .returned (.int .i64 (c0 + x.values.length + x.counts.length)) ∧ ∃ wz wa, Below w.heap.size w wz ∧ wz.grownBy wa (some gv) ∧ wa.grownBy w' (some gc) := by
  obtain ⟨hs1, hs2⟩ := hsm
  have hb : Below w.heap.size w (w.alloc (.cells #[.string x.letters, .slice q.values.a x.values.length q.values.c, .slice q.counts.a x.counts.length q.counts.c, .int .i64 x.blanks] 34)) := (Below.refl _ _).alloc (Nat.le_refl _) _
  have VT := Lib.hid (VarAt.new w 34 [.string x.letters, .slice q.values.a x.values.length q.values.c, .slice q.counts.a x.counts.length q.counts.c, .int .i64 x.blanks])
  generalize hw1 : w.alloc (.cells #[.string x.letters, .slice q.values.a x.values.length q.values.c, .slice q.counts.a x.counts.length q.counts.c, .int .i64 x.blanks] 34) = w1 at hb VT
  have hz : w1.heap.size = w.heap.size + 1 := by rw [← hw1]; simp
  have HW1 := Lib.hid hw1
  have hgv := (ho.1.lt gv (by rw [hv]; rfl)).2
  have hgc := (ho.2.lt gc (by rw [hc]; rfl)).2
  have HO1 := Lib.hid (own_below ho.1 hb)
  have HO2 := Lib.hid (own_below ho.2 hb)
  rw [hv] at HO1
  rw [hc] at HO2
  have HV := Lib.hid hv
  have HC := Lib.hid hc
  clear ho hv hc hw1
  go_enter Tryz.func20, Tryz.ntmps20
  go_upto_region 1 with fail
  rw [HW1.out]
  have c1 := VT.out.cell (i := 1) rfl
  rw [HV.out] at c1
  go_wp2_with fail
  refine (markInt64S_any x.values _ q.values.c base c0 _ HO1.out (by omega) h0 (by omega)).mono ?_
  rintro e w2 ⟨rfl, hr, hg⟩
  have hg2 : w1.grownBy w2 (some gv) := hg
  clear c1 hr hg
  replace VT := Lib.hid (VT.out.grown hg2 (by simp; omega))
  replace HO2 := Lib.hid (HO2.out.kept hg2 (.inr (by simp [Value.ownBlock]; omega)))
  have c2 := VT.out.cell (i := 2) rfl
  rw [HC.out] at c2
  go_wp2_with fail
  refine (markInt64S_any x.counts _ q.counts.c base (c0 + x.values.length) _ HO2.out (by omega) (by omega) (by omega)).mono ?_
  rintro e w3 ⟨rfl, hr, hg⟩
  have hg3 : w2.grownBy w3 (some gc) := hg
  clear c2 hr hg
  go_wp2
  go_ret
  exact ⟨rfl, _, _, hb, hg2, hg3⟩
end Go.Proofs.YtpkadgibfmjmcaaGreatDoor

namespace Go.Proofs.YtpkadgibfmjmcaaGreatDoor
open Go.ChangeShapes Go.WideShapes Go.ChangeAt Go.RowKit Go.Sort

/-- numbers in a row of the call's own, and a code -/
def IP (ms : List Int) (k : Int) (w : World) (e : Ending) (w' : World) : Prop :=
  ∃ a cap, e = .returned (.tuple #[.slice a ms.length cap, .int .i64 k]) ∧ w'.ownsRow w.heap.size 2 1 (.slice a ms.length cap) ms.length (ms.flatMap I64.enc) ∧ Below w.heap.size w w'
theorem parts_parts (b : Brd) (p : Ply) (x : Tls) : ∃ (ms : List Int) (k : Int), ms.length ≤ 13 ∧ ∀ w e w', PartsPost b p x w e w' → IP ms k w e w' := by
  cases h : (x.ok && b.okPlay p) with
  | false =>
    refine ⟨[], 1, by simp, fun w e w' hw => ?_⟩
    unfold PartsPost at hw
    rw [h] at hw
    obtain ⟨rfl, hd⟩ := hw
    exact ⟨none, 0, rfl, ⟨by simp, .inl ⟨rfl, rfl⟩⟩, hd⟩
  | true =>
    obtain ⟨n, hg⟩ := okPlay_good (Bool.and_eq_true _ _ ▸ h).2
    refine ⟨b.parts p x, 0, parts_len13 hg x, fun w e w' hw => ?_⟩
    unfold PartsPost at hw
    rw [h] at hw
    obtain ⟨g, cap, rfl, ho, hd⟩ := hw
    exact ⟨some ⟨g, 0, none⟩, cap, rfl, ho, hd⟩
set_option maxRecDepth 100000 in
set_option maxHeartbeats 8000000 in
theorem lawScoreParts_any (x : Tls) (q : TlA) (b : Brd) (p : Ply) (w : World) (ha : x.At q w) (hft : x.fit) (hf : b.fit) (hpf : p.fit) (hE : CEnv w) :
    Calls Tryz.prog 3 #[.agg #[.string x.letters, .slice q.values.a x.values.length q.values.c, .slice q.counts.a x.counts.length q.counts.c, .int .i64 x.blanks], .agg #[.int .i64 b.size, .string b.premium, .string b.cells], .agg #[.int .i64 p.row, .int .i64 p.col, .bool p.down, .string p.word]] w fun e w' => e = .returned (.bool true) ∧ Below w.heap.size w w' := by
  obtain ⟨w2, hw2⟩ : ∃ w2, w2 = ((w.alloc (.cells #[.string x.letters, .slice q.values.a x.values.length q.values.c, .slice q.counts.a x.counts.length q.counts.c, .int .i64 x.blanks] 24)).alloc (.cells #[.int .i64 b.size, .string b.premium, .string b.cells] 26)).alloc (.cells #[.int .i64 p.row, .int .i64 p.col, .bool p.down, .string p.word] 28) := ⟨_, rfl⟩
  have hb : Below w.heap.size w w2 := by rw [hw2]; exact (((Below.refl _ _).alloc (Nat.le_refl _) _).alloc (by simp) _).alloc (by simp; omega) _
  have VT : Hid (VarAt w2 w.heap.size 24 [.string x.letters, .slice q.values.a x.values.length q.values.c, .slice q.counts.a x.counts.length q.counts.c, .int .i64 x.blanks]) := by
    rw [hw2]
    exact Lib.hid (((VarAt.new w 24 [.string x.letters, .slice q.values.a x.values.length q.values.c, .slice q.counts.a x.counts.length q.counts.c, .int .i64 x.blanks]).kept ((Below.refl _ _).alloc (Nat.le_refl _) _)).kept ((Below.refl _ _).alloc (Nat.le_refl _) _))
  have VB : Hid (VarAt w2 (w.heap.size + 1) 26 [.int .i64 b.size, .string b.premium, .string b.cells]) := by
    rw [hw2]
    have := (VarAt.new (w.alloc (.cells #[.string x.letters, .slice q.values.a x.values.length q.values.c, .slice q.counts.a x.counts.length q.counts.c, .int .i64 x.blanks] 24)) 26 [.int .i64 b.size, .string b.premium, .string b.cells]).kept ((Below.refl _ _).alloc (Nat.le_refl _) (.cells #[.int .i64 p.row, .int .i64 p.col, .bool p.down, .string p.word] 28))
    simp only [World.size_alloc] at this
    exact Lib.hid this
  have VP : Hid (VarAt w2 (w.heap.size + 2) 28 [.int .i64 p.row, .int .i64 p.col, .bool p.down, .string p.word]) := by
    rw [hw2]
    have := VarAt.new ((w.alloc (.cells #[.string x.letters, .slice q.values.a x.values.length q.values.c, .slice q.counts.a x.counts.length q.counts.c, .int .i64 x.blanks] 24)).alloc (.cells #[.int .i64 b.size, .string b.premium, .string b.cells] 26)) 28 [.int .i64 p.row, .int .i64 p.col, .bool p.down, .string p.word]
    simp only [World.size_alloc] at this
    exact Lib.hid this
  obtain ⟨ms, kc, hml, hsp⟩ := parts_parts b p x
  have SA := Lib.hid (ha.kept hb)
  have HSP : Hid (∀ r W, x.At r W → Calls Tryz.prog 13 #[.agg #[.string x.letters, .slice r.values.a x.values.length r.values.c, .slice r.counts.a x.counts.length r.counts.c, .int .i64 x.blanks], .agg #[.int .i64 b.size, .string b.premium, .string b.cells], .agg #[.int .i64 p.row, .int .i64 p.col, .bool p.down, .string p.word]] W (IP ms kc W)) := Lib.hid (fun r W h => (specScoreParts_any x r b p W h hft hf hpf).mono (fun e w' => hsp W e w'))
  have HIM : Hid (x.letters.size ≤ 1048576 → p.word.size ≤ 1048576 → ∀ r W, x.At r W → CEnv W → Calls Tryz.prog 17 #[.agg #[.string x.letters, .slice r.values.a x.values.length r.values.c, .slice r.counts.a x.counts.length r.counts.c, .int .i64 x.blanks], .agg #[.int .i64 b.size, .string b.premium, .string b.cells], .agg #[.int .i64 p.row, .int .i64 p.col, .bool p.down, .string p.word]] W (IP ms kc W)) := Lib.hid (fun h1 h2 r W h he => (ScoreParts_any x r b p W h hft h1 hf h2 he).mono (fun e w' => hsp W e w'))
  have HE := Lib.hid (hE.kept hb)
  have HFT := Lib.hid hft
  have HW2 := Lib.hid hw2
  clear hw2 hsp hE ha hft
  go_enter Tryz.func3, Tryz.ntmps3
  go_upto_region 2 with fail
  rw [← HW2.out]
  clear HW2
  have t0 := VT.out.cell (i := 0) rfl
  have t1 := VT.out.cell (i := 1) rfl
  have t2 := VT.out.cell (i := 2) rfl
  have t3 := VT.out.cell (i := 3) rfl
  go_wp2_with fail
  refine (szTileSet_any x q 1048576 _ SA.out (by omega) (by omega) HFT.out).mono ?_
  rintro e w3 ⟨l1, rfl, z1, hd⟩
  clear t0 t1 t2 t3
  replace hb := hb.trans (hd.mono hb.size)
  replace VB := Lib.hid (VB.out.kept hd)
  replace VP := Lib.hid (VP.out.kept hd)
  replace VT := Lib.hid (VT.out.kept hd)
  replace SA := Lib.hid (SA.out.kept hd)
  replace HE := Lib.hid (HE.out.kept hd)
  clear hd
  rcases z1 with rfl | ⟨y1, z1⟩
  · go_wp2
    go_ret
    exact ⟨rfl, hb⟩
  have n1 : ¬ l1 < 0 := by omega
  have b0 := VB.out.cell (i := 0) rfl
  have b1 := VB.out.cell (i := 1) rfl
  have b2 := VB.out.cell (i := 2) rfl
  go_wp2_with fail
  refine (szBoard_any b l1 _ (by omega) (by omega) hf).mono ?_
  rintro e w4 ⟨l2, rfl, z2, hd⟩
  clear b0 b1 b2
  replace hb := hb.trans (hd.mono hb.size)
  replace VB := Lib.hid (VB.out.kept hd)
  replace VP := Lib.hid (VP.out.kept hd)
  replace VT := Lib.hid (VT.out.kept hd)
  replace SA := Lib.hid (SA.out.kept hd)
  replace HE := Lib.hid (HE.out.kept hd)
  clear hd
  rcases z2 with rfl | ⟨y2, z2⟩
  · go_wp2
    go_ret
    exact ⟨rfl, hb⟩
  have n2 : ¬ l2 < 0 := by omega
  have p0 := VP.out.cell (i := 0) rfl
  have p1 := VP.out.cell (i := 1) rfl
  have p2 := VP.out.cell (i := 2) rfl
  have p3 := VP.out.cell (i := 3) rfl
  go_wp2_with fail
  refine (szPlay_any p l2 _ (by omega) (by omega) hpf).mono ?_
  rintro e w5 ⟨l3, rfl, z3, hd⟩
  clear p0 p1 p2 p3
  replace hb := hb.trans (hd.mono hb.size)
  replace VB := Lib.hid (VB.out.kept hd)
  replace VP := Lib.hid (VP.out.kept hd)
  replace VT := Lib.hid (VT.out.kept hd)
  replace SA := Lib.hid (SA.out.kept hd)
  replace HE := Lib.hid (HE.out.kept hd)
  clear hd
  rcases z3 with rfl | ⟨y3, z3⟩
  · go_wp2
    go_ret
    exact ⟨rfl, hb⟩
  have n3 : ¬ l3 < 0 := by omega
  have hsz : x.letters.size ≤ 1048576 ∧ x.values.length ≤ 1048576 ∧ x.counts.length ≤ 1048576 := by unfold Tls.sz at z1; omega
  have hsm : x.small := ⟨hsz.2.1, hsz.2.2⟩
  have hps : p.word.size ≤ 1048576 := by unfold Ply.sz at z3; omega
  replace HIM := Lib.hid (HIM.out hsz.1 hps)
  clear z1 z2 z3 y1 y2 y3 hps hf hpf hsz
  go_upto_region 11 with fail
  have VX := VT
  have hd : Below w5.heap.size w5 w5.drew := (Below.refl _ _).drew
  clear VT
  replace hb := hb.trans (hd.mono hb.size)
  replace VB := Lib.hid (VB.out.kept hd)
  replace VP := Lib.hid (VP.out.kept hd)
  replace VX := Lib.hid (VX.out.kept hd)
  replace SA := Lib.hid (SA.out.kept hd)
  replace HE := Lib.hid (HE.out.kept hd)
  clear hd
  go_region_held3 (fun w' => w'.cell? ⟨w.heap.size + 1, 0, none⟩ = some (.int .i64 b.size) ∧ w'.cell? ⟨w.heap.size + 1, 1, none⟩ = some (.string b.premium) ∧ w'.cell? ⟨w.heap.size + 1, 2, none⟩ = some (.string b.cells) ∧ w'.cell? ⟨w.heap.size + 2, 0, none⟩ = some (.int .i64 p.row) ∧ w'.cell? ⟨w.heap.size + 2, 1, none⟩ = some (.int .i64 p.col) ∧ w'.cell? ⟨w.heap.size + 2, 2, none⟩ = some (.bool p.down) ∧ w'.cell? ⟨w.heap.size + 2, 3, none⟩ = some (.string p.word) ∧ w'.cell? ⟨w.heap.size, 0, none⟩ = some (.string x.letters) ∧ w'.cell? ⟨w.heap.size, 1, none⟩ = some (.slice q.values.a x.values.length q.values.c) ∧ w'.cell? ⟨w.heap.size, 2, none⟩ = some (.slice q.counts.a x.counts.length q.counts.c) ∧ w'.cell? ⟨w.heap.size, 3, none⟩ = some (.int .i64 x.blanks))
    (exact ⟨VB.out.cell (i := 0) rfl, VB.out.cell (i := 1) rfl, VB.out.cell (i := 2) rfl, VP.out.cell (i := 0) rfl, VP.out.cell (i := 1) rfl, VP.out.cell (i := 2) rfl, VP.out.cell (i := 3) rfl, VX.out.cell (i := 0) rfl, VX.out.cell (i := 1) rfl, VX.out.cell (i := 2) rfl, VX.out.cell (i := 3) rfl⟩)
    (((first | (go_at_call 15; refine (toBoard_any b _).mono ?_; rintro e wq ⟨rfl, hd⟩) | (go_at_call 16; refine (toPlay_any p _).mono ?_; rintro e wq ⟨rfl, hd⟩) | (go_at_call 14; refine (toTileSet_any x q _ SA.out hsm).mono ?_; rintro e wq ⟨rq, rfl, hoq, hd⟩; have SQ := Lib.hid hoq.at; clear hoq) | (go_at_call 13; refine (HSP.out _ _ SQ.out).mono ?_; rintro e wq ⟨a1, cap1, rfl, o1, hd⟩)); (try replace SQ := Lib.hid (SQ.out.kept hd)); replace VB := Lib.hid (VB.out.kept hd); replace VP := Lib.hid (VP.out.kept hd); replace VX := Lib.hid (VX.out.kept hd); replace SA := Lib.hid (SA.out.kept hd); replace HE := Lib.hid (HE.out.kept hd); replace hb := hb.trans (hd.mono hb.size); clear hd))
  generalize wq = w6 at *
  have S1 := Lib.hid (own_slice I64.enc_len o1 rfl)
  have VT := VX
  clear o1 SQ HSP VX
  have VBA := VB
  have VPA := VP
  have VTA := VT
  have SAA := SA
  have S1A := S1
  have HEA := HE
  have hbA := hb
  replace hb : Below w6.heap.size w6 w6 := Below.refl _ _
  have t0 := VT.out.cell (i := 0) rfl
  have t1 := VT.out.cell (i := 1) rfl
  have t2 := VT.out.cell (i := 2) rfl
  have t3 := VT.out.cell (i := 3) rfl
  go_wp2_with fail
  refine (toTileSetN_any x q _ SA.out hsm).mono ?_
  rintro e w7 ⟨r1, rfl, ho, ⟨gv, gc, hgv, hgc, hgn⟩, hd⟩
  have hr1 := ho.1.lt gv (by rw [hgv]; rfl)
  have hr2 := ho.2.lt gc (by rw [hgc]; rfl)
  have HGV := Lib.hid hgv
  have HGC := Lib.hid hgc
  clear hgv hgc
  have O9 := Lib.hid ho
  clear ho t0 t1 t2 t3
  replace hb := hb.trans (hd.mono hb.size)
  clear hd
  have hd : Below w7.heap.size w7 (w7.alloc (.cells #[.string x.letters, .slice r1.values.a x.values.length r1.values.c, .slice r1.counts.a x.counts.length r1.counts.c, .int .i64 x.blanks] 34)) := (Below.refl _ _).alloc (Nat.le_refl _) _
  have VX := Lib.hid (VarAt.new w7 34 [.string x.letters, .slice r1.values.a x.values.length r1.values.c, .slice r1.counts.a x.counts.length r1.counts.c, .int .i64 x.blanks])
  replace O9 := Lib.hid (O9.out.kept hd)
  replace hb := hb.trans (hd.mono hb.size)
  clear hd
  go_upto_region 13 with fail
  have hx7 : w7.heap.size < (w7.alloc (.cells #[.string x.letters, .slice r1.values.a x.values.length r1.values.c, .slice r1.counts.a x.counts.length r1.counts.c, .int .i64 x.blanks] 34)).heap.size := by simp
  generalize w7.alloc (.cells #[.string x.letters, .slice r1.values.a x.values.length r1.values.c, .slice r1.counts.a x.counts.length r1.counts.c, .int .i64 x.blanks] 34) = w8 at *
  generalize w7.heap.size = x1 at *
  have hd : Below w8.heap.size w8 w8.drew := (Below.refl _ _).drew
  replace VX := Lib.hid (VX.out.kept hd)
  replace O9 := Lib.hid (O9.out.kept hd)
  replace hb := hb.trans (hd.mono hb.size)
  have hz8 : w8.heap.size ≤ w8.drew.heap.size := hd.size
  clear hd
  replace VB := Lib.hid (VBA.out.kept hb)
  replace VP := Lib.hid (VPA.out.kept hb)
  replace VT := Lib.hid (VTA.out.kept hb)
  replace SA := Lib.hid (SAA.out.kept hb)
  replace S1 := Lib.hid (S1A.out.kept hb)
  replace HE := Lib.hid (HEA.out.kept hb)
  have hq : Below w8.heap.size w8 w8.drew := (Below.refl _ _).drew
  go_region_held3 (fun w' => w'.cell? ⟨w.heap.size + 1, 0, none⟩ = some (.int .i64 b.size) ∧ w'.cell? ⟨w.heap.size + 1, 1, none⟩ = some (.string b.premium) ∧ w'.cell? ⟨w.heap.size + 1, 2, none⟩ = some (.string b.cells) ∧ w'.cell? ⟨w.heap.size + 2, 0, none⟩ = some (.int .i64 p.row) ∧ w'.cell? ⟨w.heap.size + 2, 1, none⟩ = some (.int .i64 p.col) ∧ w'.cell? ⟨w.heap.size + 2, 2, none⟩ = some (.bool p.down) ∧ w'.cell? ⟨w.heap.size + 2, 3, none⟩ = some (.string p.word) ∧ w'.cell? ⟨x1, 0, none⟩ = some (.string x.letters) ∧ w'.cell? ⟨x1, 1, none⟩ = some (.slice r1.values.a x.values.length r1.values.c) ∧ w'.cell? ⟨x1, 2, none⟩ = some (.slice r1.counts.a x.counts.length r1.counts.c) ∧ w'.cell? ⟨x1, 3, none⟩ = some (.int .i64 x.blanks))
    (exact ⟨VB.out.cell (i := 0) rfl, VB.out.cell (i := 1) rfl, VB.out.cell (i := 2) rfl, VP.out.cell (i := 0) rfl, VP.out.cell (i := 1) rfl, VP.out.cell (i := 2) rfl, VP.out.cell (i := 3) rfl, VX.out.cell (i := 0) rfl, VX.out.cell (i := 1) rfl, VX.out.cell (i := 2) rfl, VX.out.cell (i := 3) rfl⟩)
    (((first | (go_at_call 15; refine (toBoard_any b _).mono ?_; rintro e wq ⟨rfl, hd⟩) | (go_at_call 16; refine (toPlay_any p _).mono ?_; rintro e wq ⟨rfl, hd⟩) | (go_at_call 14; refine (toTileSet_any x q _ SA.out hsm).mono ?_; rintro e wq ⟨rq, rfl, hoq, hd⟩; have SQ := Lib.hid hoq.at; clear hoq) | (go_at_call 17; refine (HIM.out _ _ O9.out.at HE.out).mono ?_; rintro e wq ⟨a2, cap2, rfl, o2, hd⟩)); (try have O2 := Lib.hid (own_mono o2 hq.size)) <;> (try replace hq := hq.trans (hd.mono hq.size)) <;> replace O9 := Lib.hid (O9.out.kept hd); replace VB := Lib.hid (VB.out.kept hd); replace VP := Lib.hid (VP.out.kept hd); replace VX := Lib.hid (VX.out.kept hd); replace SA := Lib.hid (SA.out.kept hd); replace HE := Lib.hid (HE.out.kept hd); replace hb := hb.trans (hd.mono hb.size); clear hd))
  generalize wq = w9 at *
  clear o2 hq
  replace S1 := Lib.hid (S1A.out.kept hb)
  have S2 := Lib.hid (own_slice I64.enc_len O2.out rfl)
  have hkk : (kc != kc) = false := by simp
  go_wp2_with fail
  refine (eqInt64S_any ms _ _ cap2 cap1 _ S2.out S1.out (by omega)).mono ?_
  rintro e w10 ⟨rfl, hd⟩
  replace O2 := Lib.hid (own_below O2.out hd)
  replace O9 := Lib.hid (O9.out.kept hd)
  replace VX := Lib.hid (VX.out.kept hd)
  replace hb := hb.trans (hd.mono hb.size)
  clear hd S1 S2 VB VP HE
  replace VT := Lib.hid (VTA.out.kept hb)
  replace SA := Lib.hid (SAA.out.kept hb)
  go_upto_region 16 with fail
  have hd : Below w10.heap.size w10 w10.drew := (Below.refl _ _).drew
  replace O2 := Lib.hid (own_below O2.out hd)
  replace O9 := Lib.hid (O9.out.kept hd)
  replace hb := hb.trans (hd.mono hb.size)
  replace VT := Lib.hid (VT.out.kept hd)
  replace VX := Lib.hid (VX.out.kept hd)
  replace SA := Lib.hid (SA.out.kept hd)
  clear hd
  have S9 := Lib.hid O9.out.at
  go_region_held3 (fun w' => w'.cell? ⟨w.heap.size, 0, none⟩ = some (.string x.letters) ∧ w'.cell? ⟨w.heap.size, 1, none⟩ = some (.slice q.values.a x.values.length q.values.c) ∧ w'.cell? ⟨w.heap.size, 2, none⟩ = some (.slice q.counts.a x.counts.length q.counts.c) ∧ w'.cell? ⟨w.heap.size, 3, none⟩ = some (.int .i64 x.blanks) ∧ w'.cell? ⟨x1, 0, none⟩ = some (.string x.letters) ∧ w'.cell? ⟨x1, 1, none⟩ = some (.slice r1.values.a x.values.length r1.values.c) ∧ w'.cell? ⟨x1, 2, none⟩ = some (.slice r1.counts.a x.counts.length r1.counts.c) ∧ w'.cell? ⟨x1, 3, none⟩ = some (.int .i64 x.blanks))
    (exact ⟨VT.out.cell (i := 0) rfl, VT.out.cell (i := 1) rfl, VT.out.cell (i := 2) rfl, VT.out.cell (i := 3) rfl, VX.out.cell (i := 0) rfl, VX.out.cell (i := 1) rfl, VX.out.cell (i := 2) rfl, VX.out.cell (i := 3) rfl⟩)
    (((first
      | (go_at_call 14; refine (toTileSet_any x q _ SA.out hsm).mono ?_; rintro e wq ⟨rq, rfl, hoq, hd⟩; have SQ := Lib.hid hoq.at; clear hoq)
      | (go_at_call 19; refine (eqTileSet_any x r1 _ _ S9.out SQ.out HFT.out).mono ?_; rintro e wq ⟨rfl, hd⟩)); replace VT := Lib.hid (VT.out.kept hd); replace VX := Lib.hid (VX.out.kept hd); replace SA := Lib.hid (SA.out.kept hd); replace S9 := Lib.hid (S9.out.kept hd); (try replace SQ := Lib.hid (SQ.out.kept hd)); replace O2 := Lib.hid (own_below O2.out hd); replace O9 := Lib.hid (O9.out.kept hd); replace hb := hb.trans (hd.mono hb.size); clear hd))
  generalize wq = w11 at *
  clear SQ S9 VT SA
  have l0 := VX.out.cell (i := 0) rfl
  have l1 := VX.out.cell (i := 1) rfl
  have l2 := VX.out.cell (i := 2) rfl
  have l3 := VX.out.cell (i := 3) rfl
  go_wp2_with fail
  refine (markTileSet_any x r1 gv gc _ 1 _ O9.out HGV.out HGC.out hgn hsm (by omega) (by omega)).mono ?_
  rintro e w12 ⟨rfl, wz, wa, hd, hg1, hg2⟩
  replace O2 := Lib.hid (own_below O2.out hd)
  replace hb := hb.trans (hd.mono hb.size)
  clear hd l0 l1 l2 l3 VX O9
  replace O2 := Lib.hid (O2.out.kept hg1 (.inr fun h => by have := (O2.out.lt gv h).1; omega))
  replace O2 := Lib.hid (O2.out.kept hg2 (.inr fun h => by have := (O2.out.lt gc h).1; omega))
  replace hb := hb.grown hg1 hb.size (fun k hk => by have e := Option.some.inj (show some gv = some k from hk); omega)
  replace hb := hb.grown hg2 hb.size (fun k hk => by have e := Option.some.inj (show some gc = some k from hk); omega)
  clear hg1 hg2
  have S1 := Lib.hid (S1A.out.kept hb)
  have S2 := Lib.hid (own_slice I64.enc_len O2.out rfl)
  have hm1 : ¬ (1 : Int) + (x.values.length : Int) + (x.counts.length : Int) < 0 := by omega
  go_wp2_with fail
  refine (eqInt64S_any ms _ _ cap2 cap1 _ S2.out S1.out (by omega)).mono ?_
  rintro e w13 ⟨rfl, hd⟩
  replace O2 := Lib.hid (own_below O2.out hd)
  replace hb := hb.trans (hd.mono hb.size)
  clear hd S1 S2
  go_wp2_with fail
  refine (markInt64S_any ms _ cap2 _ 1 _ O2.out (by omega) (by omega) (by omega)).mono ?_
  rintro e w14 ⟨rfl, ho, hg⟩
  replace hb := hb.grown hg hb.size (fun q h => by have := (O2.out.lt q h).1; omega)
  have SM := Lib.hid (own_slice I64.enc_len ho (I64.marks_len 1 ms.length).symm)
  clear ho hg O2
  have hm2 : ¬ (1 : Int) + (ms.length : Int) < 0 := by omega
  go_wp2_with fail
  refine (heldInt64S_any ms.length _ cap2 1 _ SM.out (by omega) (by omega) (by omega)).mono ?_
  rintro e w15 ⟨rfl, hd⟩
  replace SM := Lib.hid (SM.out.kept hd)
  replace hb := hb.trans (hd.mono hb.size)
  clear hd
  have VB := Lib.hid (VBA.out.kept hb)
  have VP := Lib.hid (VPA.out.kept hb)
  have VX := Lib.hid (VTA.out.kept hb)
  have SA := Lib.hid (SAA.out.kept hb)
  have S1 := Lib.hid (S1A.out.kept hb)
  have HE := Lib.hid (HEA.out.kept hb)
  clear VBA VPA VTA SAA S1A HEA
  go_upto_region 30 with fail
  have hd : Below w15.heap.size w15 w15.drew := (Below.refl _ _).drew
  replace hb := hb.trans (hd.mono hb.size)
  replace VB := Lib.hid (VB.out.kept hd)
  replace VP := Lib.hid (VP.out.kept hd)
  replace VX := Lib.hid (VX.out.kept hd)
  replace SA := Lib.hid (SA.out.kept hd)
  replace S1 := Lib.hid (S1.out.kept hd)
  replace SM := Lib.hid (SM.out.kept hd)
  replace HE := Lib.hid (HE.out.kept hd)
  clear hd
  go_region_held3 (fun w' => w'.cell? ⟨w.heap.size + 1, 0, none⟩ = some (.int .i64 b.size) ∧ w'.cell? ⟨w.heap.size + 1, 1, none⟩ = some (.string b.premium) ∧ w'.cell? ⟨w.heap.size + 1, 2, none⟩ = some (.string b.cells) ∧ w'.cell? ⟨w.heap.size + 2, 0, none⟩ = some (.int .i64 p.row) ∧ w'.cell? ⟨w.heap.size + 2, 1, none⟩ = some (.int .i64 p.col) ∧ w'.cell? ⟨w.heap.size + 2, 2, none⟩ = some (.bool p.down) ∧ w'.cell? ⟨w.heap.size + 2, 3, none⟩ = some (.string p.word) ∧ w'.cell? ⟨w.heap.size, 0, none⟩ = some (.string x.letters) ∧ w'.cell? ⟨w.heap.size, 1, none⟩ = some (.slice q.values.a x.values.length q.values.c) ∧ w'.cell? ⟨w.heap.size, 2, none⟩ = some (.slice q.counts.a x.counts.length q.counts.c) ∧ w'.cell? ⟨w.heap.size, 3, none⟩ = some (.int .i64 x.blanks))
    (exact ⟨VB.out.cell (i := 0) rfl, VB.out.cell (i := 1) rfl, VB.out.cell (i := 2) rfl, VP.out.cell (i := 0) rfl, VP.out.cell (i := 1) rfl, VP.out.cell (i := 2) rfl, VP.out.cell (i := 3) rfl, VX.out.cell (i := 0) rfl, VX.out.cell (i := 1) rfl, VX.out.cell (i := 2) rfl, VX.out.cell (i := 3) rfl⟩)
    (((first | (go_at_call 15; refine (toBoard_any b _).mono ?_; rintro e wq ⟨rfl, hd⟩) | (go_at_call 16; refine (toPlay_any p _).mono ?_; rintro e wq ⟨rfl, hd⟩) | (go_at_call 14; refine (toTileSet_any x q _ SA.out hsm).mono ?_; rintro e wq ⟨rq, rfl, hoq, hd⟩; have SQ := Lib.hid hoq.at; clear hoq) | (go_at_call 17; refine (HIM.out _ _ SQ.out HE.out).mono ?_; rintro e wq ⟨a3, cap3, rfl, o3, hd⟩)); (try replace SQ := Lib.hid (SQ.out.kept hd)) <;> replace S1 := Lib.hid (S1.out.kept hd) <;> replace SM := Lib.hid (SM.out.kept hd); replace VB := Lib.hid (VB.out.kept hd); replace VP := Lib.hid (VP.out.kept hd); replace VX := Lib.hid (VX.out.kept hd); replace SA := Lib.hid (SA.out.kept hd); replace HE := Lib.hid (HE.out.kept hd); replace hb := hb.trans (hd.mono hb.size); clear hd))
  generalize wq = w16 at *
  have S3 := Lib.hid (own_slice I64.enc_len o3 rfl)
  clear o3 SQ VB VP VX SA HE
  go_wp2_with fail
  refine (eqInt64S_any ms _ _ cap3 cap1 _ S3.out S1.out (by omega)).mono ?_
  rintro e w17 ⟨rfl, hd⟩
  replace hb := hb.trans (hd.mono hb.size)
  replace SM := Lib.hid (SM.out.kept hd)
  clear hd S1 S3
  go_wp2_with fail
  refine (heldInt64S_any ms.length _ cap2 1 _ SM.out (by omega) (by omega) (by omega)).mono ?_
  rintro e w18 ⟨rfl, hd⟩
  replace hb := hb.trans (hd.mono hb.size)
  clear hd
  go_wp2
  go_ret
  exact ⟨rfl, hbA.trans (hb.mono hbA.size)⟩
open Go.Joins Go.Deep Go.Lib in
theorem cenvQ_of_laid {W : World} (h : laidMetH Tryz.prog Rows.fnExactScorePartsRow.laid W) : CEnv W := by
  rw [MakeChecks.laidMetH_plain _ _ _ (by kernel_rfl)] at h
  exact cenv_of_met h (List.mem_cons_self) (List.mem_cons_of_mem _ (List.mem_cons_self)) (List.mem_cons_of_mem _ (List.mem_cons_of_mem _ (List.mem_cons_self)))
end Go.Proofs.YtpkadgibfmjmcaaGreatDoor
