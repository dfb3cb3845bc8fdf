/- Contracts: the reference's draws of what a score is asked with: a tile set, a board and a play. Nothing is said of them but that they are short. -/
import Derived.Test.YtjdcdhhbgijaoaaGreatDoorDtB
import Derived.Test.YtjdcdhhbgijaoaaGreatDoorDbQ
namespace Go.Proofs.YtjdcdhhbgijaoaaGreatDoor
open Go.ChangeShapes Go.WideShapes Go.ChangeAt Go.RowKit Go.Sort

def twoNames : List ByteArray := [⟨#[115, 109, 97, 108, 108]⟩, ⟨#[101, 110, 103, 108, 105, 115, 104]⟩]
theorem two_std {s : ByteArray} (h : s ∈ twoNames) : s ∈ stdNames := by
  unfold twoNames at h
  unfold stdNames
  simp only [List.mem_cons, List.not_mem_nil, or_false] at h ⊢
  exact h.symm
set_option maxRecDepth 100000 in
set_option maxHeartbeats 8000000 in
theorem l13Tiles_any (N b k : Nat) (w : World) (hs : SrcAt w N b k) (hk : k < 134217728) (hN : N ≤ w.heap.size) :
    Calls Tryz.prog 104 #[.pointer (some ⟨b, 0, none⟩)] w (TlDrawn 0 31 w N b (k + 310)) := by
  have hbN := hs.lt
  have hb : Below w.heap.size w (w.alloc (.cells #[.string ⟨#[]⟩, .slice none 0 0, .slice none 0 0, .int .i64 0] 44)) := (Below.refl _ _).alloc (Nat.le_refl _) _
  have HS := Lib.hid (hs.kept hb)
  have G := Lib.hid (grown_of_below (row := some b) hb)
  have VR := Lib.hid (VarAt.new w 44 [.string ⟨#[]⟩, .slice none 0 0, .slice none 0 0, .int .i64 0])
  clear hs hb
  go_enter Tryz.func104, Tryz.ntmps104
  go_upto_region 1 with fail
  have hz1 : w.heap.size + 1 ≤ (w.alloc (.cells #[.string ⟨#[]⟩, .slice none 0 0, .slice none 0 0, .int .i64 0] 44)).heap.size := by simp
  generalize w.alloc (.cells #[.string ⟨#[]⟩, .slice none 0 0, .slice none 0 0, .int .i64 0] 44) = w1 at *
  go_wp2_with fail
  refine (one_any 5 N b _ _ HS.out (by omega)).mono ?_
  rintro e w2 ⟨y, rfl, s2, g2⟩
  replace VR := Lib.hid (VR.out.grown g2 (by simp; omega))
  replace HS := Lib.hid s2
  replace G := Lib.hid (grownBy_trans G.out g2)
  have hz2 : w.heap.size + 1 ≤ w2.heap.size := Nat.le_trans hz1 g2.size
  clear s2 g2 hz1
  cases y with
  | true =>
    go_wp2_with fail
    refine (l02Bent_any N b _ w2 HS.out (by omega) (by omega)).mono ?_
    rintro e w3 ⟨x, q, rfl, l1, l2, l3, _, _, hat, hoff, s3, g3⟩
    replace VR := Lib.hid (VR.out.grown g3 (by simp; omega))
    replace HS := Lib.hid s3
    replace G := Lib.hid (grownBy_trans G.out g3)
    have y0 := VR.out.cell (i := 0) rfl
    have y1 := VR.out.cell (i := 1) rfl
    have y2 := VR.out.cell (i := 2) rfl
    have y3 := VR.out.cell (i := 3) rfl
    have f0 := VR.out.free 0
    have f1 := VR.out.free 1
    have f2 := VR.out.free 2
    have f3 := VR.out.free 3
    obtain ⟨o0, k0⟩ := VR.out.set 0 (.string x.letters)
    obtain ⟨o1, k1⟩ := o0.set 1 (.slice q.values.a x.values.length q.values.c)
    obtain ⟨o2, k2⟩ := o1.set 2 (.slice q.counts.a x.counts.length q.counts.c)
    obtain ⟨o3, k3⟩ := o2.set 3 (.int .i64 x.blanks)
    have GG := grownBy_trans (grownBy_trans (grownBy_trans k0 k1) k2) k3
    have e0 := o3.cell (i := 0) (v := .string x.letters) rfl
    have e1 := o3.cell (i := 1) (v := .slice q.values.a x.values.length q.values.c) rfl
    have e2 := o3.cell (i := 2) (v := .slice q.counts.a x.counts.length q.counts.c) rfl
    have e3 := o3.cell (i := 3) (v := .int .i64 x.blanks) rfl
    have HF := Lib.hid (Tls.Own.mono (Tls.Own.store hat GG (by omega)) (show w.heap.size ≤ _ by omega))
    replace HS := Lib.hid (HS.out.grown GG (fun g e => by cases e; exact hN))
    replace G := Lib.hid (grown_over G.out GG (Nat.le_refl _))
    clear o0 o1 o2 o3 k0 k1 k2 k3 GG VR hat s3 g3
    go_wp2
    refine bodyPost_ret (v := .agg #[.string x.letters, .slice q.values.a x.values.length q.values.c, .slice q.counts.a x.counts.length q.counts.c, .int .i64 x.blanks]) (by simp [results, Tryz.results104, go_sem, e0, e1, e2, e3]) rfl ?_
    exact ⟨x, q, rfl, l1, l2, l3, Nat.zero_le _, Nat.zero_le _, HF.out, hoff, HS.out.mono (Nat.le_refl _) (by omega), G.out⟩
  | false =>
    have hx : Below w2.heap.size w2 (w2.alloc (.cells (twoNames.flatMap Str.enc).toArray 9)) := (Below.refl _ _).alloc (Nat.le_refl _) _
    have HC := Lib.hid (cells_new (enc := Str.enc) (sz := 1) (fun _ => rfl) w2 twoNames 9)
    replace VR := Lib.hid (VR.out.kept hx)
    replace HS := Lib.hid (HS.out.kept hx)
    replace G := Lib.hid (grown_below G.out hx)
    have hz3 := hx.size
    clear hx
    go_wp2_with fail
    refine (text_any twoNames w2.heap.size 2 N b _ _ HS.out (by omega) HC.out (by decide) (by decide) (by omega)).mono ?_
    rintro e w4 ⟨s, hsx, rfl, s4, g4⟩
    obtain ⟨x, htx, l1, l2, l3, l4, l5⟩ := std_text (two_std hsx)
    replace VR := Lib.hid (VR.out.grown g4 (by simp; omega))
    replace HS := Lib.hid s4
    replace G := Lib.hid (grownBy_trans G.out g4)
    have hz4 : w.heap.size + 1 ≤ w4.heap.size := Nat.le_trans (by omega) g4.size
    clear s4 g4 hz3 hz2 HC hsx
    go_wp2_with fail
    refine (specTiles_any x s _ htx).mono ?_
    rintro e w5 ⟨q, rfl, hat, hoff, hd⟩
    have hx : Below w5.heap.size w5 (w5.alloc (.cells #[.string x.letters, .slice q.values.a x.values.length q.values.c, .slice q.counts.a x.counts.length q.counts.c, .int .i64 x.blanks] 44)) := (Below.refl _ _).alloc (Nat.le_refl _) _
    have V1 := Lib.hid (VarAt.new w5 44 [.string x.letters, .slice q.values.a x.values.length q.values.c, .slice q.counts.a x.counts.length q.counts.c, .int .i64 x.blanks])
    replace VR := Lib.hid ((VR.out.kept hd).kept hx)
    replace HS := Lib.hid ((HS.out.kept hd).kept hx)
    replace G := Lib.hid (grown_below (grown_below G.out hd) hx)
    replace hat := Tls.Own.kept hat hx
    clear hd hx htx
    go_upto_region 4 with fail
    generalize w5.alloc (.cells #[.string x.letters, .slice q.values.a x.values.length q.values.c, .slice q.counts.a x.counts.length q.counts.c, .int .i64 x.blanks] 44) = w6 at *
    generalize w5.heap.size = B5 at *
    have c0 := V1.out.cell (i := 0) rfl
    have c1 := V1.out.cell (i := 1) rfl
    have c2 := V1.out.cell (i := 2) rfl
    have c3 := V1.out.cell (i := 3) rfl
    have y0 := VR.out.cell (i := 0) rfl
    have y1 := VR.out.cell (i := 1) rfl
    have y2 := VR.out.cell (i := 2) rfl
    have y3 := VR.out.cell (i := 3) rfl
    have f0 := VR.out.free 0
    have f1 := VR.out.free 1
    have f2 := VR.out.free 2
    have f3 := VR.out.free 3
    obtain ⟨o0, k0⟩ := VR.out.set 0 (.string x.letters)
    obtain ⟨o1, k1⟩ := o0.set 1 (.slice q.values.a x.values.length q.values.c)
    obtain ⟨o2, k2⟩ := o1.set 2 (.slice q.counts.a x.counts.length q.counts.c)
    obtain ⟨o3, k3⟩ := o2.set 3 (.int .i64 x.blanks)
    have GG := grownBy_trans (grownBy_trans (grownBy_trans k0 k1) k2) k3
    have e0 := o3.cell (i := 0) (v := .string x.letters) rfl
    have e1 := o3.cell (i := 1) (v := .slice q.values.a x.values.length q.values.c) rfl
    have e2 := o3.cell (i := 2) (v := .slice q.counts.a x.counts.length q.counts.c) rfl
    have e3 := o3.cell (i := 3) (v := .int .i64 x.blanks) rfl
    have HF := Lib.hid (Tls.Own.mono (Tls.Own.store hat GG (by omega)) (show w.heap.size ≤ _ by omega))
    replace HS := Lib.hid (HS.out.grown GG (fun g e => by cases e; exact hN))
    replace G := Lib.hid (grown_over G.out GG (Nat.le_refl _))
    clear o0 o1 o2 o3 k0 k1 k2 k3 GG VR hat V1
    go_wp2
    refine bodyPost_ret (v := .agg #[.string x.letters, .slice q.values.a x.values.length q.values.c, .slice q.counts.a x.counts.length q.counts.c, .int .i64 x.blanks]) (by simp [results, Tryz.results104, go_sem, e0, e1, e2, e3]) rfl ?_
    exact ⟨x, q, rfl, by omega, by omega, by omega, Nat.zero_le _, Nat.zero_le _, HF.out, hoff, HS.out.mono (Nat.le_refl _) (by omega), G.out⟩
def fullWords : List ByteArray := [⟨#[97, 114, 116, 101, 115, 116, 115]⟩, ⟨#[114, 101, 115, 116, 97, 114, 116]⟩, ⟨#[65, 114, 101, 110, 97, 115, 116]⟩, ⟨#[98, 97, 110, 97, 110, 97]⟩]
def fullSizes : List Int := [9, 15, 11]
theorem std_full {z : Int} (h : z ∈ fullSizes) : ∃ (n : Nat) (P C : ByteArray) (c : Int), stdBoard z = (⟨n, P, C⟩, c) ∧ n ≤ 15 ∧ P.size ≤ 300 ∧ C.size ≤ 300 := by
  have key : ∀ n : Nat, n ≤ 15 → 5 ≤ n → ∃ (m : Nat) (P C : ByteArray) (c : Int), stdBoard (n : Int) = (⟨m, P, C⟩, c) ∧ m ≤ 15 ∧ P.size ≤ 300 ∧ C.size ≤ 300 := fun n hn h5 => by
    have hz : withinB (n : Int) 5 15 = true := by unfold withinB; simp; omega
    have hnn : n * n ≤ 225 := Nat.mul_le_mul hn hn
    refine ⟨n, mkB (stdL n), mkB (List.replicate (n * n) 46), 0, by unfold stdBoard; rw [if_pos hz]; rfl, hn, ?_, ?_⟩
    · rw [mkB_size, stdL_len]; omega
    · rw [mkB_size, List.length_replicate]; omega
  unfold fullSizes at h
  simp only [List.mem_cons, List.not_mem_nil, or_false] at h
  rcases h with rfl | rfl | rfl
  · exact key 9 (by decide) (by decide)
  · exact key 15 (by decide) (by decide)
  · exact key 11 (by decide) (by decide)
set_option maxRecDepth 100000 in
set_option maxHeartbeats 8000000 in
theorem l13Full_any (N b k : Nat) (w : World) (hs : SrcAt w N b k) (hk : k < 67108864) (hN : N ≤ w.heap.size) :
    Calls Tryz.prog 178 #[.pointer (some ⟨b, 0, none⟩)] w (PairDrawn w N b (k + 210)) := by
  have hbN := hs.lt
  obtain ⟨w1, hw1⟩ : ∃ w1, w1 = (w.alloc (.cells #[.int .i64 0, .string ⟨#[]⟩, .string ⟨#[]⟩] 25)).alloc (.cells #[.int .i64 0, .int .i64 0, .bool false, .string ⟨#[]⟩] 30) := ⟨_, rfl⟩
  have hb : Below w.heap.size w w1 := by rw [hw1]; exact ((Below.refl _ _).alloc (Nat.le_refl _) _).alloc (by simp) _
  have hz1 : w.heap.size + 1 < w1.heap.size := by rw [hw1]; simp
  have V2 : Hid (VarAt w1 w.heap.size 25 [.int .i64 0, .string ⟨#[]⟩, .string ⟨#[]⟩]) := by
    rw [hw1]
    exact Lib.hid ((VarAt.new w 25 [.int .i64 0, .string ⟨#[]⟩, .string ⟨#[]⟩]).kept ((Below.refl _ _).alloc (Nat.le_refl _) _))
  have V3 : Hid (VarAt w1 (w.heap.size + 1) 30 [.int .i64 0, .int .i64 0, .bool false, .string ⟨#[]⟩]) := by
    rw [hw1]
    have := VarAt.new (w.alloc (.cells #[.int .i64 0, .string ⟨#[]⟩, .string ⟨#[]⟩] 25)) 30 [.int .i64 0, .int .i64 0, .bool false, .string ⟨#[]⟩]
    simp only [World.size_alloc] at this
    exact Lib.hid this
  have HS := Lib.hid (hs.kept hb)
  have G := Lib.hid (grown_of_below (row := some b) hb)
  have HW1 := Lib.hid hw1
  clear hs hb hw1
  go_enter Tryz.func178, Tryz.ntmps178
  go_upto_region 1 with fail
  rw [← HW1.out]
  clear HW1
  go_wp2_with fail
  refine (one_any 6 N b _ _ HS.out (by omega)).mono ?_
  rintro e w2 ⟨y, rfl, s2, g2⟩
  replace V2 := Lib.hid (V2.out.grown g2 (by simp; omega))
  replace V3 := Lib.hid (V3.out.grown g2 (by simp; omega))
  replace HS := Lib.hid s2
  replace G := Lib.hid (grownBy_trans G.out g2)
  have hz2 : w.heap.size + 1 < w2.heap.size := Nat.lt_of_lt_of_le hz1 g2.size
  clear s2 g2 hz1
  cases y with
  | false =>
    go_wp2_with fail
    refine (l12Bent_any N b _ _ HS.out (by omega) (by omega)).mono ?_
    rintro e w3 ⟨⟨zS, zP, zC⟩, ⟨zR, zQ, zD, zW⟩, hP, hC, hW, rfl, s3, g3⟩
    replace V2 := Lib.hid (V2.out.grown g3 (by simp; omega))
    replace V3 := Lib.hid (V3.out.grown g3 (by simp; omega))
    replace HS := Lib.hid s3
    replace G := Lib.hid (grownBy_trans G.out g3)
    clear s3 g3
    have c0 := V2.out.cell (i := 0) rfl
    have c1 := V2.out.cell (i := 1) rfl
    have c2 := V2.out.cell (i := 2) rfl
    have f0 := V2.out.free 0
    have f1 := V2.out.free 1
    have f2 := V2.out.free 2
    obtain ⟨o0, k0⟩ := V2.out.set 0 (.int .i64 zS)
    obtain ⟨o1, k1⟩ := o0.set 1 (.string zP)
    obtain ⟨o2, k2⟩ := o1.set 2 (.string zC)
    have G2 := grownBy_trans (grownBy_trans k0 k1) k2
    replace V3 := Lib.hid (V3.out.grown G2 (by simp))
    have d0 := V3.out.cell (i := 0) rfl
    have d1 := V3.out.cell (i := 1) rfl
    have d2 := V3.out.cell (i := 2) rfl
    have d3 := V3.out.cell (i := 3) rfl
    have g0 := V3.out.free 0
    have g1 := V3.out.free 1
    have g2 := V3.out.free 2
    have g3 := V3.out.free 3
    obtain ⟨p0, l0⟩ := V3.out.set 0 (.int .i64 zR)
    obtain ⟨p1, l1⟩ := p0.set 1 (.int .i64 zQ)
    obtain ⟨p2, l2⟩ := p1.set 2 (.bool zD)
    obtain ⟨p3, l3⟩ := p2.set 3 (.string zW)
    have G3 := grownBy_trans (grownBy_trans (grownBy_trans l0 l1) l2) l3
    have V2' := o2.grown G3 (by simp)
    have HS9 := Lib.hid ((HS.out.grown G2 (fun g e => by cases e; exact hN)).grown G3 (fun g e => by cases e; omega))
    have G9 := Lib.hid (grown_over (grown_over G.out G2 (Nat.le_refl _)) G3 (by omega))
    have e0 := V2'.cell (i := 0) (v := .int .i64 zS) rfl
    have e1 := V2'.cell (i := 1) (v := .string zP) rfl
    have e2 := V2'.cell (i := 2) (v := .string zC) rfl
    have u0 := p3.cell (i := 0) (v := .int .i64 zR) rfl
    have u1 := p3.cell (i := 1) (v := .int .i64 zQ) rfl
    have u2 := p3.cell (i := 2) (v := .bool zD) rfl
    have u3 := p3.cell (i := 3) (v := .string zW) rfl
    clear o0 o1 o2 k0 k1 k2 G2 p0 p1 p2 p3 l0 l1 l2 l3 G3 V2' V2 V3 HS G
    go_wp2
    refine bodyPost_ret (v := .tuple #[.agg #[.int .i64 zS, .string zP, .string zC], .agg #[.int .i64 zR, .int .i64 zQ, .bool zD, .string zW]]) (by simp [results, Tryz.results178, go_sem, e0, e1, e2, u0, u1, u2, u3]) rfl ?_
    exact ⟨⟨zS, zP, zC⟩, ⟨zR, zQ, zD, zW⟩, hP, hC, hW, rfl, HS9.out.mono (Nat.le_refl _) (by omega), G9.out⟩
  | true =>
    have hx : Below w2.heap.size w2 (w2.alloc (.cells (fullSizes.flatMap I64.enc).toArray 2)) := (Below.refl _ _).alloc (Nat.le_refl _) _
    have HC := Lib.hid (cells_new (enc := I64.enc) (sz := 1) (fun _ => rfl) w2 fullSizes 2)
    replace V2 := Lib.hid (V2.out.kept hx)
    replace V3 := Lib.hid (V3.out.kept hx)
    replace HS := Lib.hid (HS.out.kept hx)
    replace G := Lib.hid (grown_below G.out hx)
    have hz3 := hx.size
    clear hx
    go_wp2_with fail
    refine (among_any fullSizes w2.heap.size 3 N b _ _ HS.out (by omega) HC.out (by decide) (by decide) (by omega)).mono ?_
    rintro e w3 ⟨z, hzm, rfl, s3, g3⟩
    obtain ⟨n, P, C, c, hst, hn, hP, hC⟩ := std_full hzm
    replace V2 := Lib.hid (V2.out.grown g3 (by simp; omega))
    replace V3 := Lib.hid (V3.out.grown g3 (by simp; omega))
    replace HS := Lib.hid s3
    replace G := Lib.hid (grownBy_trans G.out g3)
    have hz4 : w.heap.size + 1 < w3.heap.size := Nat.lt_of_lt_of_le (by omega) g3.size
    clear s3 g3 HC hzm hz2 hz3
    have HB := Lib.hid (fun W => specStandardBoard_any z W)
    rw [hst] at HB
    simp only at HB
    clear hst
    go_wp2_with fail
    refine (HB.out _).mono ?_
    rintro e w4 ⟨rfl, hd⟩
    have hx : Below w4.heap.size w4 (w4.alloc (.cells #[.int .i64 (n : Int), .string P, .string C] 25)) := (Below.refl _ _).alloc (Nat.le_refl _) _
    have V4 := Lib.hid (VarAt.new w4 25 [.int .i64 (n : Int), .string P, .string C])
    replace V2 := Lib.hid (V2.out.kept hd)
    replace V3 := Lib.hid (V3.out.kept hd)
    replace HS := Lib.hid (HS.out.kept hd)
    replace G := Lib.hid (grown_below G.out hd)
    replace V2 := Lib.hid (V2.out.kept hx)
    replace V3 := Lib.hid (V3.out.kept hx)
    replace HS := Lib.hid (HS.out.kept hx)
    replace G := Lib.hid (grown_below G.out hx)
    have hz5 : w.heap.size + 1 < w4.heap.size := Nat.lt_of_lt_of_le hz4 hd.size
    clear hd hx hz4 HB
    go_upto_region 4 with fail
    generalize w4.alloc (.cells #[.int .i64 (n : Int), .string P, .string C] 25) = w5 at *
    generalize w4.heap.size = B4 at *
    have hd : Below w5.heap.size w5 w5.drew := (Below.refl _ _).drew
    replace V4 := Lib.hid (V4.out.kept hd)
    replace V2 := Lib.hid (V2.out.kept hd)
    replace V3 := Lib.hid (V3.out.kept hd)
    replace HS := Lib.hid (HS.out.kept hd)
    replace G := Lib.hid (grown_below G.out hd)
    clear hd
    obtain ⟨h, hh, hh2⟩ : ∃ h : Nat, Int.tdiv (n : Int) 2 = (h : Int) ∧ h ≤ 15 := ⟨n / 2, by rw [Int.tdiv_eq_ediv_of_nonneg (by omega)]; omega, by omega⟩
    have wh : IntKind.i64.wrap (h : Int) = (h : Int) := IntWalk.i64_in _ (by omega)
    have hS : w5.drew.cell? ⟨B4, 0, none⟩ = some (.int .i64 (n : Int)) := V4.out.cell (i := 0) rfl
    refine wp_region_held_drew (S := fun W => W.cell? ⟨B4, 0, none⟩ = some (.int .i64 (n : Int))) (by kernel_rfl) hS (fun hHeld => ?_)
    generalize w5.drew = w6 at *
    refine slotA 0 22 (.pointer (some ⟨B4, 0, none⟩)) ?_
    simp only [S3]
    refine slotA 1 23 (.int .i64 (n : Int)) ?_ (hy := Or.inl ⟨by rfl, fun w' hS => by have c9 : w'.cell? ⟨B4, 0, none⟩ = some (.int .i64 (n : Int)) := hS; go_simp⟩)
    simp only [S3]
    refine slotA 2 24 (.int .i64 (h : Int)) ?_
    simp only [S3]
    refine slotA 3 25 (.pointer (some ⟨b, 0, none⟩)) ?_
    simp only [S3]
    refine wpAnyH_ready (rs := [4]) (by kernel_rfl) (by simp) ?_
    refine AllReadyH.cons (o := _) rfl (fun K hK => ?_) AllReadyH.nil
    go_simp
    refine (pick_any 4 N b _ _ HS.out (by omega)).mono ?_
    rintro e w7 ⟨z2, ⟨z0, z1, _, _⟩, rfl, s7, g7⟩
    have hlt7 := V4.out.lt
    have hS3 := g7.cell hS (by simp; omega)
    replace V4 := Lib.hid (V4.out.grown g7 (by simp; omega))
    replace V2 := Lib.hid (V2.out.grown g7 (by simp; omega))
    replace V3 := Lib.hid (V3.out.grown g7 (by simp; omega))
    replace HS := Lib.hid s7
    replace G := Lib.hid (grownBy_trans G.out g7)
    have z3 := z1 (by decide)
    clear s7 g7 z1 hS
    have wd : IntKind.i64.wrap ((h : Int) - z2) = (h : Int) - z2 := IntWalk.i64_in _ (by omega)
    go_wp2_with fail
    refine hK.out _ _ hS3 (fun hHeld2 => ?_)
    clear hK K hHeld hHeld2
    refine slotA 5 27 (.int .i64 ((h : Int) - z2)) ?_
    simp only [S3]
    refine slotA 6 6 (.int .i64 ((h : Int) - z2)) ?_
    simp only [S3]
    refine wpAnyH_done (by kernel_rfl) ?_ _
    clear wd hS3
    generalize (h : Int) - z2 = col at *
    have hx : Below w7.heap.size w7 (w7.alloc (.cells (fullWords.flatMap Str.enc).toArray 9)) := (Below.refl _ _).alloc (Nat.le_refl _) _
    have HC := Lib.hid (cells_new (enc := Str.enc) (sz := 1) (fun _ => rfl) w7 fullWords 9)
    have hlt8 := V4.out.lt
    replace V4 := Lib.hid (V4.out.kept hx)
    replace V2 := Lib.hid (V2.out.kept hx)
    replace V3 := Lib.hid (V3.out.kept hx)
    replace HS := Lib.hid (HS.out.kept hx)
    replace G := Lib.hid (grown_below G.out hx)
    clear hx
    go_upto_region 5 with fail
    go_wp2_with fail
    refine (text_any fullWords w7.heap.size 4 N b _ _ HS.out (by omega) HC.out (by decide) (by decide) (by omega)).mono ?_
    rintro e w8 ⟨t, htx, rfl, s8, g8⟩
    have ht : t.size ≤ 20 := short_ok htx (by rfl)
    replace V4 := Lib.hid (V4.out.grown g8 (by simp; omega))
    replace V2 := Lib.hid (V2.out.grown g8 (by simp; omega))
    replace V3 := Lib.hid (V3.out.grown g8 (by simp; omega))
    replace HS := Lib.hid s8
    replace G := Lib.hid (grownBy_trans G.out g8)
    clear s8 g8 htx HC hlt8 hlt7
    go_upto_region 6 with fail
    have hd : Below w8.heap.size w8 w8.drew := (Below.refl _ _).drew
    replace V4 := Lib.hid (V4.out.kept hd)
    replace V2 := Lib.hid (V2.out.kept hd)
    replace V3 := Lib.hid (V3.out.kept hd)
    replace HS := Lib.hid (HS.out.kept hd)
    replace G := Lib.hid (grown_below G.out hd)
    clear hd
    refine wp_region_held_drew (S := fun W => W.rangeAt B4 0 [.int .i64 (n : Int), .string P, .string C] ∧ W.cell? ⟨B4, 0, none⟩ = some (.int .i64 (n : Int))) (by kernel_rfl) ⟨V4.out.range, V4.out.cell (i := 0) rfl⟩ (fun hHeld => ?_)
    have hS9 : w8.drew.rangeAt B4 0 [.int .i64 (n : Int), .string P, .string C] ∧ w8.drew.cell? ⟨B4, 0, none⟩ = some (.int .i64 (n : Int)) := ⟨V4.out.range, V4.out.cell (i := 0) rfl⟩
    generalize w8.drew = wD at *
    refine slotA 0 31 (.agg #[.int .i64 (n : Int), .string P, .string C]) ?_ (hy := yieldsIf_load_mid (by rfl) 25 _ rfl B4 0 rfl [.int .i64 (n : Int), .string P, .string C] _ (fun w' hS => hS.1) Tryz.underlying25 rfl (by kernel_rfl))
    simp only [S3]
    refine slotA 1 32 (.pointer (some ⟨B4, 0, none⟩)) ?_
    simp only [S3]
    refine slotA 2 33 (.int .i64 (n : Int)) ?_ (hy := Or.inl ⟨by rfl, fun w' hS => by have c9 : w'.cell? ⟨B4, 0, none⟩ = some (.int .i64 (n : Int)) := hS.2; go_simp⟩)
    simp only [S3]
    refine slotA 3 34 (.int .i64 (h : Int)) ?_
    simp only [S3]
    refine slotA 4 35 (.int .i64 col) ?_
    simp only [S3]
    refine slotA 5 36 (.string t) ?_
    simp only [S3]
    refine slotA 6 37 (.agg #[.int .i64 (h : Int), .int .i64 col, .bool false, .string t]) ?_
    simp only [S3]
    clear hHeld hS9 hh wh
    refine wpAnyH_ready (rs := [7]) (by kernel_rfl) (by simp) ?_
    refine AllReadyH.cons (o := _) rfl (fun K hK => ?_) AllReadyH.nil
    obtain ⟨o2, GG⟩ := V2.out.put [.int .i64 (n : Int), .string P, .string C] rfl
    have tR := V2.out.there (n := 3) rfl
    refine mk_store rfl rfl 25 (.tmp 2) (.tmp 31) rfl w.heap.size 0 #[.int .i64 (n : Int), .string P, .string C] rfl rfl tR (by kernel_rfl) (by simp [Value.oneCell']) ?_
    replace HS := Lib.hid (HS.out.grown GG (fun g e => by simp at e; omega))
    replace G := Lib.hid (grown_over G.out GG (by omega))
    replace V4 := Lib.hid (V4.out.grown GG (by simp; omega))
    replace V3 := Lib.hid (V3.out.grown GG (by simp <;> omega))
    replace V2 := Lib.hid o2
    refine hK.out _ _ ⟨V4.out.range, V4.out.cell (i := 0) rfl⟩ (fun hHeld9 => ?_)
    clear hK K tR o2 GG hHeld9
    change wpAnyH _ _ _ _ _ _ _ _ (World.setCells _ w.heap.size 0 [.int .i64 (n : Int), .string P, .string C])
    generalize World.setCells _ w.heap.size 0 [.int .i64 (n : Int), .string P, .string C] = wz at *
    refine wpAnyH_ready (rs := [8]) (by kernel_rfl) (by simp) ?_
    refine AllReadyH.cons (o := _) rfl (fun K hK => ?_) AllReadyH.nil
    obtain ⟨o2, GG⟩ := V3.out.put [.int .i64 (h : Int), .int .i64 col, .bool false, .string t] rfl
    have tR := V3.out.there (n := 4) rfl
    refine mk_store rfl rfl 30 (.tmp 3) (.tmp 37) rfl (w.heap.size + 1) 0 #[.int .i64 (h : Int), .int .i64 col, .bool false, .string t] rfl rfl tR (by kernel_rfl) (by simp [Value.oneCell']) ?_
    replace HS := Lib.hid (HS.out.grown GG (fun g e => by simp at e; omega))
    replace G := Lib.hid (grown_over G.out GG (by omega))
    replace V4 := Lib.hid (V4.out.grown GG (by simp; omega))
    replace V2 := Lib.hid (V2.out.grown GG (by simp <;> omega))
    replace V3 := Lib.hid o2
    refine hK.out _ _ ⟨V4.out.range, V4.out.cell (i := 0) rfl⟩ (fun hHeld9 => ?_)
    clear hK K tR o2 GG hHeld9
    change wpAnyH _ _ _ _ _ _ _ _ (World.setCells _ (w.heap.size + 1) 0 [.int .i64 (h : Int), .int .i64 col, .bool false, .string t])
    generalize World.setCells _ (w.heap.size + 1) 0 [.int .i64 (h : Int), .int .i64 col, .bool false, .string t] = wz at *
    refine wpAnyH_done (by kernel_rfl) ?_ _
    have e0 := V2.out.cell (i := 0) (v := .int .i64 (n : Int)) rfl
    have e1 := V2.out.cell (i := 1) (v := .string P) rfl
    have e2 := V2.out.cell (i := 2) (v := .string C) rfl
    have u0 := V3.out.cell (i := 0) (v := .int .i64 (h : Int)) rfl
    have u1 := V3.out.cell (i := 1) (v := .int .i64 col) rfl
    have u2 := V3.out.cell (i := 2) (v := .bool false) rfl
    have u3 := V3.out.cell (i := 3) (v := .string t) rfl
    clear V2 V3 V4
    go_wp2
    refine bodyPost_ret (v := .tuple #[.agg #[.int .i64 (n : Int), .string P, .string C], .agg #[.int .i64 (h : Int), .int .i64 col, .bool false, .string t]]) (by simp [results, Tryz.results178, go_sem, e0, e1, e2, u0, u1, u2, u3]) rfl ?_
    exact ⟨⟨n, P, C⟩, ⟨h, col, false, t⟩, hP, hC, ht, rfl, HS.out.mono (Nat.le_refl _) (by omega), G.out⟩
end Go.Proofs.YtjdcdhhbgijaoaaGreatDoor
