/- Contracts: the reference's draws of what a score is asked with: a tile set, a board and a play. Nothing is said of them but that they are short. -/
import Derived.Test.YtjdcdhhbgijaoaaGreatDoorDtB
import Derived.Test.YtjdcdhhbgijaoaaGreatDoorDbQ
namespace Go.Proofs.YtjdcdhhbgijaoaaGreatDoor
open Go.ChangeShapes Go.WideShapes Go.ChangeAt Go.RowKit Go.Sort

def twoNames : List ByteArray := [⟨#[115, 109, 97, 108, 108]⟩, ⟨#[101, 110, 103, 108, 105, 115, 104]⟩]
theorem two_std {s : ByteArray} (h : s ∈ twoNames) : s ∈ stdNames := by
  unfold twoNames at h
  unfold stdNames
  simp only [List.mem_cons, List.not_mem_nil, or_false] at h ⊢
  exact h.symm
set_option maxRecDepth 100000 in
set_option maxHeartbeats 8000000 in
theorem l13Tiles_any (N b k : Nat) (w : World) (hs : SrcAt w N b k) (hk : k < 134217728) (hN : N ≤ w.heap.size) :
    Calls Tryz.prog 104 #[.pointer (some ⟨b, 0, none⟩)] w (TlDrawn 0 31 w N b (k + 310)) := by
  have hbN := hs.lt
  have hb : Below w.heap.size w (w.alloc (.cells #[.string ⟨#[]⟩, .slice none 0 0, .slice none 0 0, .int .i64 0] 44)) := (Below.refl _ _).alloc (Nat.le_refl _) _
  have HS := Lib.hid (hs.kept hb)
  have G := Lib.hid (grown_of_below (row := some b) hb)
  have VR := Lib.hid (VarAt.new w 44 [.string ⟨#[]⟩, .slice none 0 0, .slice none 0 0, .int .i64 0])
  clear hs hb
  go_enter Tryz.func104, Tryz.ntmps104
  go_upto_region 1 with fail
  have hz1 : w.heap.size + 1 ≤ (w.alloc (.cells #[.string ⟨#[]⟩, .slice none 0 0, .slice none 0 0, .int .i64 0] 44)).heap.size := by simp
  generalize w.alloc (.cells #[.string ⟨#[]⟩, .slice none 0 0, .slice none 0 0, .int .i64 0] 44) = w1 at *
  go_wp2_with fail
  refine (one_any 5 N b _ _ HS.out (by omega)).mono ?_
  rintro e w2 ⟨y, rfl, s2, g2⟩
  replace VR := Lib.hid (VR.out.grown g2 (by simp; omega))
  replace HS := Lib.hid s2
  replace G := Lib.hid (grownBy_trans G.out g2)
  have hz2 : w.heap.size + 1 ≤ w2.heap.size := Nat.le_trans hz1 g2.size
  clear s2 g2 hz1
  cases y with
  | true =>
    go_wp2_with fail
    refine (l02Bent_any N b _ w2 HS.out (by omega) (by omega)).mono ?_
    rintro e w3 ⟨x, q, rfl, l1, l2, l3, _, _, hat, hoff, s3, g3⟩
    replace VR := Lib.hid (VR.out.grown g3 (by simp; omega))
    replace HS := Lib.hid s3
    replace G := Lib.hid (grownBy_trans G.out g3)
    have y0 := VR.out.cell (i := 0) rfl
    have y1 := VR.out.cell (i := 1) rfl
    have y2 := VR.out.cell (i := 2) rfl
    have y3 := VR.out.cell (i := 3) rfl
    have f0 := VR.out.free 0
    have f1 := VR.out.free 1
    have f2 := VR.out.free 2
    have f3 := VR.out.free 3
    obtain ⟨o0, k0⟩ := VR.out.set 0 (.string x.letters)
    obtain ⟨o1, k1⟩ := o0.set 1 (.slice q.values.a x.values.length q.values.c)
    obtain ⟨o2, k2⟩ := o1.set 2 (.slice q.counts.a x.counts.length q.counts.c)
    obtain ⟨o3, k3⟩ := o2.set 3 (.int .i64 x.blanks)
    have GG := grownBy_trans (grownBy_trans (grownBy_trans k0 k1) k2) k3
    have e0 := o3.cell (i := 0) (v := .string x.letters) rfl
    have e1 := o3.cell (i := 1) (v := .slice q.values.a x.values.length q.values.c) rfl
    have e2 := o3.cell (i := 2) (v := .slice q.counts.a x.counts.length q.counts.c) rfl
    have e3 := o3.cell (i := 3) (v := .int .i64 x.blanks) rfl
    have HF := Lib.hid (Tls.Own.mono (Tls.Own.store hat GG (by omega)) (show w.heap.size ≤ _ by omega))
    replace HS := Lib.hid (HS.out.grown GG (fun g e => by cases e; exact hN))
    replace G := Lib.hid (grown_over G.out GG (Nat.le_refl _))
    clear o0 o1 o2 o3 k0 k1 k2 k3 GG VR hat s3 g3
    go_wp2
    refine bodyPost_ret (v := .agg #[.string x.letters, .slice q.values.a x.values.length q.values.c, .slice q.counts.a x.counts.length q.counts.c, .int .i64 x.blanks]) (by simp [results, Tryz.results104, go_sem, e0, e1, e2, e3]) rfl ?_
    exact ⟨x, q, rfl, l1, l2, l3, Nat.zero_le _, Nat.zero_le _, HF.out, hoff, HS.out.mono (Nat.le_refl _) (by omega), G.out⟩
  | false =>
    have hx : Below w2.heap.size w2 (w2.alloc (.cells (twoNames.flatMap Str.enc).toArray 9)) := (Below.refl _ _).alloc (Nat.le_refl _) _
    have HC := Lib.hid (cells_new (enc := Str.enc) (sz := 1) (fun _ => rfl) w2 twoNames 9)
    replace VR := Lib.hid (VR.out.kept hx)
    replace HS := Lib.hid (HS.out.kept hx)
    replace G := Lib.hid (grown_below G.out hx)
    have hz3 := hx.size
    clear hx
    go_wp2_with fail
    refine (text_any twoNames w2.heap.size 2 N b _ _ HS.out (by omega) HC.out (by decide) (by decide) (by omega)).mono ?_
    rintro e w4 ⟨s, hsx, rfl, s4, g4⟩
    obtain ⟨x, htx, l1, l2, l3, l4, l5⟩ := std_text (two_std hsx)
    replace VR := Lib.hid (VR.out.grown g4 (by simp; omega))
    replace HS := Lib.hid s4
    replace G := Lib.hid (grownBy_trans G.out g4)
    have hz4 : w.heap.size + 1 ≤ w4.heap.size := Nat.le_trans (by omega) g4.size
    clear s4 g4 hz3 hz2 HC hsx
    go_wp2_with fail
    refine (specTiles_any x s _ htx).mono ?_
    rintro e w5 ⟨q, rfl, hat, hoff, hd⟩
    have hx : Below w5.heap.size w5 (w5.alloc (.cells #[.string x.letters, .slice q.values.a x.values.length q.values.c, .slice q.counts.a x.counts.length q.counts.c, .int .i64 x.blanks] 44)) := (Below.refl _ _).alloc (Nat.le_refl _) _
    have V1 := Lib.hid (VarAt.new w5 44 [.string x.letters, .slice q.values.a x.values.length q.values.c, .slice q.counts.a x.counts.length q.counts.c, .int .i64 x.blanks])
    replace VR := Lib.hid ((VR.out.kept hd).kept hx)
    replace HS := Lib.hid ((HS.out.kept hd).kept hx)
    replace G := Lib.hid (grown_below (grown_below G.out hd) hx)
    replace hat := Tls.Own.kept hat hx
    clear hd hx htx
    go_upto_region 4 with fail
    generalize w5.alloc (.cells #[.string x.letters, .slice q.values.a x.values.length q.values.c, .slice q.counts.a x.counts.length q.counts.c, .int .i64 x.blanks] 44) = w6 at *
    generalize w5.heap.size = B5 at *
    have c0 := V1.out.cell (i := 0) rfl
    have c1 := V1.out.cell (i := 1) rfl
    have c2 := V1.out.cell (i := 2) rfl
    have c3 := V1.out.cell (i := 3) rfl
    have y0 := VR.out.cell (i := 0) rfl
    have y1 := VR.out.cell (i := 1) rfl
    have y2 := VR.out.cell (i := 2) rfl
    have y3 := VR.out.cell (i := 3) rfl
    have f0 := VR.out.free 0
    have f1 := VR.out.free 1
    have f2 := VR.out.free 2
    have f3 := VR.out.free 3
    obtain ⟨o0, k0⟩ := VR.out.set 0 (.string x.letters)
    obtain ⟨o1, k1⟩ := o0.set 1 (.slice q.values.a x.values.length q.values.c)
    obtain ⟨o2, k2⟩ := o1.set 2 (.slice q.counts.a x.counts.length q.counts.c)
    obtain ⟨o3, k3⟩ := o2.set 3 (.int .i64 x.blanks)
    have GG := grownBy_trans (grownBy_trans (grownBy_trans k0 k1) k2) k3
    have e0 := o3.cell (i := 0) (v := .string x.letters) rfl
    have e1 := o3.cell (i := 1) (v := .slice q.values.a x.values.length q.values.c) rfl
    have e2 := o3.cell (i := 2) (v := .slice q.counts.a x.counts.length q.counts.c) rfl
    have e3 := o3.cell (i := 3) (v := .int .i64 x.blanks) rfl
    have HF := Lib.hid (Tls.Own.mono (Tls.Own.store hat GG (by omega)) (show w.heap.size ≤ _ by omega))
    replace HS := Lib.hid (HS.out.grown GG (fun g e => by cases e; exact hN))
    replace G := Lib.hid (grown_over G.out GG (Nat.le_refl _))
    clear o0 o1 o2 o3 k0 k1 k2 k3 GG VR hat V1
    go_wp2
    refine bodyPost_ret (v := .agg #[.string x.letters, .slice q.values.a x.values.length q.values.c, .slice q.counts.a x.counts.length q.counts.c, .int .i64 x.blanks]) (by simp [results, Tryz.results104, go_sem, e0, e1, e2, e3]) rfl ?_
    exact ⟨x, q, rfl, by omega, by omega, by omega, Nat.zero_le _, Nat.zero_le _, HF.out, hoff, HS.out.mono (Nat.le_refl _) (by omega), G.out⟩
end Go.Proofs.YtjdcdhhbgijaoaaGreatDoor
