/- Contract: the reference's draw for ScorePlay: a tile set, a board and a play. Nothing is said of them but that they are short. -/
import Derived.Test.YtjdcdhhbgijaoaaGreatDoorDtC
namespace Go.Proofs.YtjdcdhhbgijaoaaGreatDoor
open Go.ChangeShapes Go.WideShapes Go.ChangeAt Go.RowKit Go.Sort

/-- what a score is asked with comes back -/
def AskOut (w : World) (e : Ending) (w' : World) : Prop :=
  ∃ (x : Tls) (q : TlA) (bd : Brd) (p : Ply), x.letters.size ≤ 31 ∧ x.values.length ≤ 31 ∧ x.counts.length ≤ 31 ∧ bd.premium.size ≤ 300 ∧ bd.cells.size ≤ 300 ∧ p.word.size ≤ 20 ∧ e = .returned (.tuple #[.agg #[.string x.letters, .slice q.values.a x.values.length q.values.c, .slice q.counts.a x.counts.length q.counts.c, .int .i64 x.blanks], .agg #[.int .i64 bd.size, .string bd.premium, .string bd.cells], .agg #[.int .i64 p.row, .int .i64 p.col, .bool p.down, .string p.word]]) ∧ x.Own q w.heap.size w' ∧ Below w.heap.size w w'
set_option maxRecDepth 100000 in
set_option maxHeartbeats 8000000 in
theorem l13Ask_any (ca : Option Addr) (ccap : Nat) (bs : List Int) (w : World) (hc : CodeAt w w.heap.size ca bs) : Calls Tryz.prog 85 #[.slice ca bs.length ccap] w (AskOut w) := by
  obtain ⟨w1, hw1⟩ : ∃ w1, w1 = ((w.alloc (.cells #[.string ⟨#[]⟩, .slice none 0 0, .slice none 0 0, .int .i64 0] 44)).alloc (.cells #[.int .i64 0, .string ⟨#[]⟩, .string ⟨#[]⟩] 25)).alloc (.cells #[.int .i64 0, .int .i64 0, .bool false, .string ⟨#[]⟩] 30) := ⟨_, rfl⟩
  have hb : Below w.heap.size w w1 := by rw [hw1]; exact (((Below.refl _ _).alloc (Nat.le_refl _) _).alloc (by simp) _).alloc (by simp; omega) _
  have hz1 : w1.heap.size = w.heap.size + 1 + 1 + 1 := by rw [hw1]; simp
  have V2 : Hid (VarAt w1 w.heap.size 44 [.string ⟨#[]⟩, .slice none 0 0, .slice none 0 0, .int .i64 0]) := by
    rw [hw1]
    exact Lib.hid (((VarAt.new w 44 [.string ⟨#[]⟩, .slice none 0 0, .slice none 0 0, .int .i64 0]).kept ((Below.refl _ _).alloc (Nat.le_refl _) _)).kept ((Below.refl _ _).alloc (Nat.le_refl _) _))
  have V3 : Hid (VarAt w1 (w.heap.size + 1) 25 [.int .i64 0, .string ⟨#[]⟩, .string ⟨#[]⟩]) := by
    rw [hw1]
    have := (VarAt.new (w.alloc (.cells #[.string ⟨#[]⟩, .slice none 0 0, .slice none 0 0, .int .i64 0] 44)) 25 [.int .i64 0, .string ⟨#[]⟩, .string ⟨#[]⟩]).kept ((Below.refl _ _).alloc (Nat.le_refl _) (.cells #[.int .i64 0, .int .i64 0, .bool false, .string ⟨#[]⟩] 30))
    simp only [World.size_alloc] at this
    exact Lib.hid this
  have V4 : Hid (VarAt w1 (w.heap.size + 1 + 1) 30 [.int .i64 0, .int .i64 0, .bool false, .string ⟨#[]⟩]) := by
    rw [hw1]
    have := VarAt.new ((w.alloc (.cells #[.string ⟨#[]⟩, .slice none 0 0, .slice none 0 0, .int .i64 0] 44)).alloc (.cells #[.int .i64 0, .string ⟨#[]⟩, .string ⟨#[]⟩] 25)) 30 [.int .i64 0, .int .i64 0, .bool false, .string ⟨#[]⟩]
    simp only [World.size_alloc] at this
    exact Lib.hid this
  have HC : Hid (CodeAt w1 w1.heap.size ca bs) := by
    obtain ⟨c1, c2, c3, c4⟩ := hc
    exact Lib.hid ⟨c1.kept hb, c2, c3, fun h0 cb co e => by have := c4 h0 cb co e; omega⟩
  have HW1 := Lib.hid hw1
  clear hc hw1
  go_enter Tryz.func85, Tryz.ntmps85
  go_upto_region 1 with fail
  rw [← HW1.out]
  clear HW1
  have HZ1 := Lib.hid hz1
  clear hz1
  go_wp2_with fail
  refine (l00From_any ca ccap bs _ HC.out).mono ?_
  rintro e w2 ⟨rfl, h2, s2, hz2⟩
  have hz1 := HZ1.out
  have HS := Lib.hid s2
  replace V2 := Lib.hid (V2.out.kept h2)
  replace V3 := Lib.hid (V3.out.kept h2)
  replace V4 := Lib.hid (V4.out.kept h2)
  replace hb := hb.trans (h2.mono hb.size)
  have hz3 : w1.heap.size + 1 ≤ w2.heap.size := by omega
  have hz4 : w.heap.size + 1 + 1 < w1.heap.size := by omega
  generalize w1.heap.size = B1 at *
  clear h2 s2 HC hz1 HZ1
  go_wp2_with fail
  refine (l13Tiles_any (B1 + 1) B1 0 _ HS.out (by omega) hz3).mono ?_
  rintro e w3 ⟨x, q, rfl, l1, l2, l3, _, _, hat, hoff, s3, g3⟩
  have HT0 : Hid (x.Own q (B1 + 1) w3) := Lib.hid (Tls.Own.mono hat (by omega))
  replace V2 := Lib.hid (V2.out.grown g3 (by simp; omega))
  replace V3 := Lib.hid (V3.out.grown g3 (by simp; omega))
  replace V4 := Lib.hid (V4.out.grown g3 (by simp; omega))
  replace HS := Lib.hid s3
  replace hb := hb.grown g3 hb.size (fun q h => by cases h; omega)
  have hz5 : B1 + 1 ≤ w3.heap.size := Nat.le_trans hz3 g3.size
  clear s3 g3 hat hoff hz2 hz3
  have hx : Below w3.heap.size w3 (w3.alloc (.cells #[.string x.letters, .slice q.values.a x.values.length q.values.c, .slice q.counts.a x.counts.length q.counts.c, .int .i64 x.blanks] 44)) := (Below.refl _ _).alloc (Nat.le_refl _) _
  have V6 := Lib.hid (VarAt.new w3 44 [.string x.letters, .slice q.values.a x.values.length q.values.c, .slice q.counts.a x.counts.length q.counts.c, .int .i64 x.blanks])
  have HT := Lib.hid (HT0.out.kept hx)
  have hz6 : w3.heap.size < (w3.alloc (.cells #[.string x.letters, .slice q.values.a x.values.length q.values.c, .slice q.counts.a x.counts.length q.counts.c, .int .i64 x.blanks] 44)).heap.size := by simp
  replace V2 := Lib.hid (V2.out.kept hx)
  replace V3 := Lib.hid (V3.out.kept hx)
  replace V4 := Lib.hid (V4.out.kept hx)
  replace HS := Lib.hid (HS.out.kept hx)
  replace hb := hb.trans (Below.mono hx hb.size)
  clear hx HT0
  go_upto_region 3 with fail
  generalize w3.alloc (.cells #[.string x.letters, .slice q.values.a x.values.length q.values.c, .slice q.counts.a x.counts.length q.counts.c, .int .i64 x.blanks] 44) = w4 at *
  generalize w3.heap.size = B6 at *
  go_wp2_with fail
  refine (l13Full_any (B1 + 1) B1 _ _ HS.out (by omega) (by omega)).mono ?_
  rintro e w5 ⟨⟨S, P, C⟩, ⟨R, Q, D, W⟩, hP, hC, hW, rfl, s5, g5⟩
  replace V2 := Lib.hid (V2.out.grown g5 (by simp; omega))
  replace V3 := Lib.hid (V3.out.grown g5 (by simp; omega))
  replace V4 := Lib.hid (V4.out.grown g5 (by simp; omega))
  replace HS := Lib.hid s5
  replace hb := hb.grown g5 hb.size (fun q h => by cases h; omega)
  replace V6 := Lib.hid (V6.out.grown g5 (by simp; omega))
  replace HT := Lib.hid (HT.out.store g5 (by omega))
  have hz7 : B6 < w5.heap.size := Nat.lt_of_lt_of_le hz6 g5.size
  replace hP : P.size ≤ 300 := hP
  replace hC : C.size ≤ 300 := hC
  replace hW : W.size ≤ 20 := hW
  clear s5 g5 hz6
  simp only
  have hx : Below w5.heap.size w5 ((w5.alloc (.cells #[.int .i64 S, .string P, .string C] 25)).alloc (.cells #[.int .i64 R, .int .i64 Q, .bool D, .string W] 30)) := ((Below.refl _ _).alloc (Nat.le_refl _) _).alloc (by simp) _
  have V7 := Lib.hid ((VarAt.new w5 25 [.int .i64 S, .string P, .string C]).kept ((Below.refl _ _).alloc (Nat.le_refl _) (.cells #[.int .i64 R, .int .i64 Q, .bool D, .string W] 30)))
  have V8 : Hid (VarAt ((w5.alloc (.cells #[.int .i64 S, .string P, .string C] 25)).alloc (.cells #[.int .i64 R, .int .i64 Q, .bool D, .string W] 30)) (w5.heap.size + 1) 30 [.int .i64 R, .int .i64 Q, .bool D, .string W]) := by
    have := VarAt.new (w5.alloc (.cells #[.int .i64 S, .string P, .string C] 25)) 30 [.int .i64 R, .int .i64 Q, .bool D, .string W]
    simp only [World.size_alloc] at this
    exact Lib.hid this
  replace V2 := Lib.hid (V2.out.kept hx)
  replace V3 := Lib.hid (V3.out.kept hx)
  replace V4 := Lib.hid (V4.out.kept hx)
  replace HS := Lib.hid (HS.out.kept hx)
  replace hb := hb.trans (Below.mono hx hb.size)
  replace V6 := Lib.hid (V6.out.kept hx)
  replace HT := Lib.hid (HT.out.kept hx)
  clear hx
  go_upto_region 4 with fail
  generalize (w5.alloc (.cells #[.int .i64 S, .string P, .string C] 25)).alloc (.cells #[.int .i64 R, .int .i64 Q, .bool D, .string W] 30) = w6 at *
  generalize w5.heap.size = B7 at *
  have hd : Below w6.heap.size w6 w6.drew := (Below.refl _ _).drew
  replace V2 := Lib.hid (V2.out.kept hd)
  replace V3 := Lib.hid (V3.out.kept hd)
  replace V4 := Lib.hid (V4.out.kept hd)
  replace HS := Lib.hid (HS.out.kept hd)
  replace hb := hb.trans (Below.mono hd hb.size)
  replace V6 := Lib.hid (V6.out.kept hd)
  replace V7 := Lib.hid (V7.out.kept hd)
  replace V8 := Lib.hid (V8.out.kept hd)
  replace HT := Lib.hid (HT.out.kept hd)
  clear hd HS
  refine wp_region_held_drew (S := fun W' => W'.rangeAt B6 0 [.string x.letters, .slice q.values.a x.values.length q.values.c, .slice q.counts.a x.counts.length q.counts.c, .int .i64 x.blanks] ∧ W'.rangeAt B7 0 [.int .i64 S, .string P, .string C] ∧ W'.rangeAt (B7 + 1) 0 [.int .i64 R, .int .i64 Q, .bool D, .string W]) (by kernel_rfl) ⟨V6.out.range, V7.out.range, V8.out.range⟩ (fun hHeld => ?_)
  have hS9 : World.rangeAt (World.drew w6) B6 0 [.string x.letters, .slice q.values.a x.values.length q.values.c, .slice q.counts.a x.counts.length q.counts.c, .int .i64 x.blanks] ∧ World.rangeAt (World.drew w6) B7 0 [.int .i64 S, .string P, .string C] ∧ World.rangeAt (World.drew w6) (B7 + 1) 0 [.int .i64 R, .int .i64 Q, .bool D, .string W] := ⟨V6.out.range, V7.out.range, V8.out.range⟩
  generalize World.drew w6 = wD at *
  refine slotA 0 18 (.agg #[.string x.letters, .slice q.values.a x.values.length q.values.c, .slice q.counts.a x.counts.length q.counts.c, .int .i64 x.blanks]) ?_ (hy := yieldsIf_load_mid (by rfl) 44 _ rfl B6 0 rfl [.string x.letters, .slice q.values.a x.values.length q.values.c, .slice q.counts.a x.counts.length q.counts.c, .int .i64 x.blanks] _ (fun w' hS => hS.1) Tryz.underlying44 rfl (by kernel_rfl))
  simp only [S3]
  refine slotA 1 19 (.agg #[.int .i64 S, .string P, .string C]) ?_ (hy := yieldsIf_load_mid (by rfl) 25 _ rfl B7 0 rfl [.int .i64 S, .string P, .string C] _ (fun w' hS => hS.2.1) Tryz.underlying25 rfl (by kernel_rfl))
  simp only [S3]
  refine slotA 2 20 (.agg #[.int .i64 R, .int .i64 Q, .bool D, .string W]) ?_ (hy := yieldsIf_load_mid (by rfl) 30 _ rfl (B7 + 1) 0 rfl [.int .i64 R, .int .i64 Q, .bool D, .string W] _ (fun w' hS => hS.2.2) Tryz.underlying30 rfl (by kernel_rfl))
  simp only [S3]
  clear hHeld hS9
  refine wpAnyH_ready (rs := [3]) (by kernel_rfl) (by simp) ?_
  refine AllReadyH.cons (o := _) rfl (fun K hK => ?_) AllReadyH.nil
  obtain ⟨o2, GG⟩ := V2.out.put [.string x.letters, .slice q.values.a x.values.length q.values.c, .slice q.counts.a x.counts.length q.counts.c, .int .i64 x.blanks] rfl
  have tR := V2.out.there (n := 4) rfl
  refine mk_store rfl rfl 44 (.tmp 2) (.tmp 18) rfl w.heap.size 0 #[.string x.letters, .slice q.values.a x.values.length q.values.c, .slice q.counts.a x.counts.length q.counts.c, .int .i64 x.blanks] rfl rfl tR (by kernel_rfl) (by simp [Value.oneCell']) ?_
  replace hb := hb.grown GG hb.size (fun q h => by cases h; omega)
  replace V6 := Lib.hid (V6.out.grown GG (by simp; omega))
  replace V7 := Lib.hid (V7.out.grown GG (by simp; omega))
  replace V8 := Lib.hid (V8.out.grown GG (by simp; omega))
  replace HT := Lib.hid (HT.out.store GG (by omega))
  replace V3 := Lib.hid (V3.out.grown GG (by simp <;> omega))
  replace V4 := Lib.hid (V4.out.grown GG (by simp <;> omega))
  replace V2 := Lib.hid o2
  refine hK.out _ _ ⟨V6.out.range, V7.out.range, V8.out.range⟩ (fun hHeld9 => ?_)
  clear hK K tR o2 GG hHeld9
  change wpAnyH _ _ _ _ _ _ _ _ (World.setCells _ w.heap.size 0 [.string x.letters, .slice q.values.a x.values.length q.values.c, .slice q.counts.a x.counts.length q.counts.c, .int .i64 x.blanks])
  generalize World.setCells _ w.heap.size 0 [.string x.letters, .slice q.values.a x.values.length q.values.c, .slice q.counts.a x.counts.length q.counts.c, .int .i64 x.blanks] = wz at *
  refine wpAnyH_ready (rs := [4]) (by kernel_rfl) (by simp) ?_
  refine AllReadyH.cons (o := _) rfl (fun K hK => ?_) AllReadyH.nil
  obtain ⟨o2, GG⟩ := V3.out.put [.int .i64 S, .string P, .string C] rfl
  have tR := V3.out.there (n := 3) rfl
  refine mk_store rfl rfl 25 (.tmp 3) (.tmp 19) rfl (w.heap.size + 1) 0 #[.int .i64 S, .string P, .string C] rfl rfl tR (by kernel_rfl) (by simp [Value.oneCell']) ?_
  replace hb := hb.grown GG hb.size (fun q h => by cases h; omega)
  replace V6 := Lib.hid (V6.out.grown GG (by simp; omega))
  replace V7 := Lib.hid (V7.out.grown GG (by simp; omega))
  replace V8 := Lib.hid (V8.out.grown GG (by simp; omega))
  replace HT := Lib.hid (HT.out.store GG (by omega))
  replace V2 := Lib.hid (V2.out.grown GG (by simp <;> omega))
  replace V4 := Lib.hid (V4.out.grown GG (by simp <;> omega))
  replace V3 := Lib.hid o2
  refine hK.out _ _ ⟨V6.out.range, V7.out.range, V8.out.range⟩ (fun hHeld9 => ?_)
  clear hK K tR o2 GG hHeld9
  change wpAnyH _ _ _ _ _ _ _ _ (World.setCells _ (w.heap.size + 1) 0 [.int .i64 S, .string P, .string C])
  generalize World.setCells _ (w.heap.size + 1) 0 [.int .i64 S, .string P, .string C] = wz at *
  refine wpAnyH_ready (rs := [5]) (by kernel_rfl) (by simp) ?_
  refine AllReadyH.cons (o := _) rfl (fun K hK => ?_) AllReadyH.nil
  obtain ⟨o2, GG⟩ := V4.out.put [.int .i64 R, .int .i64 Q, .bool D, .string W] rfl
  have tR := V4.out.there (n := 4) rfl
  refine mk_store rfl rfl 30 (.tmp 4) (.tmp 20) rfl (w.heap.size + 1 + 1) 0 #[.int .i64 R, .int .i64 Q, .bool D, .string W] rfl rfl tR (by kernel_rfl) (by simp [Value.oneCell']) ?_
  replace hb := hb.grown GG hb.size (fun q h => by cases h; omega)
  replace V6 := Lib.hid (V6.out.grown GG (by simp; omega))
  replace V7 := Lib.hid (V7.out.grown GG (by simp; omega))
  replace V8 := Lib.hid (V8.out.grown GG (by simp; omega))
  replace HT := Lib.hid (HT.out.store GG (by omega))
  replace V2 := Lib.hid (V2.out.grown GG (by simp <;> omega))
  replace V3 := Lib.hid (V3.out.grown GG (by simp <;> omega))
  replace V4 := Lib.hid o2
  refine hK.out _ _ ⟨V6.out.range, V7.out.range, V8.out.range⟩ (fun hHeld9 => ?_)
  clear hK K tR o2 GG hHeld9
  change wpAnyH _ _ _ _ _ _ _ _ (World.setCells _ (w.heap.size + 1 + 1) 0 [.int .i64 R, .int .i64 Q, .bool D, .string W])
  generalize World.setCells _ (w.heap.size + 1 + 1) 0 [.int .i64 R, .int .i64 Q, .bool D, .string W] = wz at *
  refine wpAnyH_done (by kernel_rfl) ?_ _
  have e0 := V2.out.cell (i := 0) (v := .string x.letters) rfl
  have e1 := V2.out.cell (i := 1) (v := .slice q.values.a x.values.length q.values.c) rfl
  have e2 := V2.out.cell (i := 2) (v := .slice q.counts.a x.counts.length q.counts.c) rfl
  have e3 := V2.out.cell (i := 3) (v := .int .i64 x.blanks) rfl
  have u0 := V3.out.cell (i := 0) (v := .int .i64 S) rfl
  have u1 := V3.out.cell (i := 1) (v := .string P) rfl
  have u2 := V3.out.cell (i := 2) (v := .string C) rfl
  have y0 := V4.out.cell (i := 0) (v := .int .i64 R) rfl
  have y1 := V4.out.cell (i := 1) (v := .int .i64 Q) rfl
  have y2 := V4.out.cell (i := 2) (v := .bool D) rfl
  have y3 := V4.out.cell (i := 3) (v := .string W) rfl
  clear V2 V3 V4 V6 V7 V8
  go_wp2
  refine bodyPost_ret (v := .tuple #[.agg #[.string x.letters, .slice q.values.a x.values.length q.values.c, .slice q.counts.a x.counts.length q.counts.c, .int .i64 x.blanks], .agg #[.int .i64 S, .string P, .string C], .agg #[.int .i64 R, .int .i64 Q, .bool D, .string W]]) (by simp [results, Tryz.results85, go_sem, e0, e1, e2, e3, u0, u1, u2, y0, y1, y2, y3]) rfl ?_
  exact ⟨x, q, ⟨S, P, C⟩, ⟨R, Q, D, W⟩, l1, l2, l3, hP, hC, hW, rfl, Tls.Own.mono HT.out (by omega), hb⟩
set_option maxRecDepth 100000 in
set_option maxHeartbeats 8000000 in
theorem DrawScorePlay_any (ca : Option Addr) (ccap : Nat) (bs : List Int) (w : World) (hc : CodeAt w w.heap.size ca bs) : Calls Tryz.prog 21 #[.slice ca bs.length ccap] w (AskOut w) := by
  obtain ⟨w1, hw1⟩ : ∃ w1, w1 = ((w.alloc (.cells #[.string ⟨#[]⟩, .slice none 0 0, .slice none 0 0, .int .i64 0] 44)).alloc (.cells #[.int .i64 0, .string ⟨#[]⟩, .string ⟨#[]⟩] 25)).alloc (.cells #[.int .i64 0, .int .i64 0, .bool false, .string ⟨#[]⟩] 30) := ⟨_, rfl⟩
  have hb : Below w.heap.size w w1 := by rw [hw1]; exact (((Below.refl _ _).alloc (Nat.le_refl _) _).alloc (by simp) _).alloc (by simp; omega) _
  have hz1 : w1.heap.size = w.heap.size + 1 + 1 + 1 := by rw [hw1]; simp
  have V2 : Hid (VarAt w1 w.heap.size 44 [.string ⟨#[]⟩, .slice none 0 0, .slice none 0 0, .int .i64 0]) := by
    rw [hw1]
    exact Lib.hid (((VarAt.new w 44 [.string ⟨#[]⟩, .slice none 0 0, .slice none 0 0, .int .i64 0]).kept ((Below.refl _ _).alloc (Nat.le_refl _) _)).kept ((Below.refl _ _).alloc (Nat.le_refl _) _))
  have V3 : Hid (VarAt w1 (w.heap.size + 1) 25 [.int .i64 0, .string ⟨#[]⟩, .string ⟨#[]⟩]) := by
    rw [hw1]
    have := (VarAt.new (w.alloc (.cells #[.string ⟨#[]⟩, .slice none 0 0, .slice none 0 0, .int .i64 0] 44)) 25 [.int .i64 0, .string ⟨#[]⟩, .string ⟨#[]⟩]).kept ((Below.refl _ _).alloc (Nat.le_refl _) (.cells #[.int .i64 0, .int .i64 0, .bool false, .string ⟨#[]⟩] 30))
    simp only [World.size_alloc] at this
    exact Lib.hid this
  have V4 : Hid (VarAt w1 (w.heap.size + 1 + 1) 30 [.int .i64 0, .int .i64 0, .bool false, .string ⟨#[]⟩]) := by
    rw [hw1]
    have := VarAt.new ((w.alloc (.cells #[.string ⟨#[]⟩, .slice none 0 0, .slice none 0 0, .int .i64 0] 44)).alloc (.cells #[.int .i64 0, .string ⟨#[]⟩, .string ⟨#[]⟩] 25)) 30 [.int .i64 0, .int .i64 0, .bool false, .string ⟨#[]⟩]
    simp only [World.size_alloc] at this
    exact Lib.hid this
  have HC : Hid (CodeAt w1 w1.heap.size ca bs) := by
    obtain ⟨c1, c2, c3, c4⟩ := hc
    exact Lib.hid ⟨c1.kept hb, c2, c3, fun h0 cb co e => by have := c4 h0 cb co e; omega⟩
  have HW1 := Lib.hid hw1
  clear hc hw1
  go_enter Tryz.func21, Tryz.ntmps21
  go_upto_region 1 with fail
  rw [← HW1.out]
  clear HW1
  go_wp2_with fail
  refine (l13Ask_any ca ccap bs _ HC.out).mono ?_
  rintro e w2 ⟨x, q, ⟨S, P, C⟩, ⟨R, Q, D, W⟩, hl1, hl2, hl3, hP, hC, hW, rfl, hat, hd⟩
  replace V2 := Lib.hid (V2.out.kept hd)
  replace V3 := Lib.hid (V3.out.kept hd)
  replace V4 := Lib.hid (V4.out.kept hd)
  replace hb := hb.trans (hd.mono hb.size)
  clear hd HC
  replace hP : P.size ≤ 300 := hP
  replace hC : C.size ≤ 300 := hC
  replace hW : W.size ≤ 20 := hW
  have c0 := V2.out.cell (i := 0) rfl
  have c1 := V2.out.cell (i := 1) rfl
  have c2 := V2.out.cell (i := 2) rfl
  have c3 := V2.out.cell (i := 3) rfl
  have f0 := V2.out.free 0
  have f1 := V2.out.free 1
  have f2 := V2.out.free 2
  have f3 := V2.out.free 3
  obtain ⟨o0, k0⟩ := V2.out.set 0 (.string x.letters)
  obtain ⟨o1, k1⟩ := o0.set 1 (.slice q.values.a x.values.length q.values.c)
  obtain ⟨o2, k2⟩ := o1.set 2 (.slice q.counts.a x.counts.length q.counts.c)
  obtain ⟨o3, k3⟩ := o2.set 3 (.int .i64 x.blanks)
  have G2 := grownBy_trans (grownBy_trans (grownBy_trans (k0) k1) k2) k3
  replace V3 := Lib.hid (V3.out.grown G2 (by simp <;> omega))
  replace V4 := Lib.hid (V4.out.grown G2 (by simp <;> omega))
  have d0 := V3.out.cell (i := 0) rfl
  have d1 := V3.out.cell (i := 1) rfl
  have d2 := V3.out.cell (i := 2) rfl
  have g0 := V3.out.free 0
  have g1 := V3.out.free 1
  have g2 := V3.out.free 2
  obtain ⟨p0, l0⟩ := V3.out.set 0 (.int .i64 S)
  obtain ⟨p1, l1⟩ := p0.set 1 (.string P)
  obtain ⟨p2, l2⟩ := p1.set 2 (.string C)
  have G3 := grownBy_trans (grownBy_trans (l0) l1) l2
  replace V4 := Lib.hid (V4.out.grown G3 (by simp <;> omega))
  have h0 := V4.out.cell (i := 0) rfl
  have h1 := V4.out.cell (i := 1) rfl
  have h2 := V4.out.cell (i := 2) rfl
  have h3 := V4.out.cell (i := 3) rfl
  have j0 := V4.out.free 0
  have j1 := V4.out.free 1
  have j2 := V4.out.free 2
  have j3 := V4.out.free 3
  obtain ⟨r0, m0⟩ := V4.out.set 0 (.int .i64 R)
  obtain ⟨r1, m1⟩ := r0.set 1 (.int .i64 Q)
  obtain ⟨r2, m2⟩ := r1.set 2 (.bool D)
  obtain ⟨r3, m3⟩ := r2.set 3 (.string W)
  have G4 := grownBy_trans (grownBy_trans (grownBy_trans (m0) m1) m2) m3
  have O2 := (o3.grown G3 (by simp <;> omega)).grown G4 (by simp <;> omega)
  have O3 := p2.grown G4 (by simp <;> omega)
  have HF := Lib.hid (Tls.Own.mono (Tls.Own.store (Tls.Own.store (Tls.Own.store hat G2 (by omega)) G3 (by omega)) G4 (by omega)) (show w.heap.size ≤ w1.heap.size by omega))
  have hb9 := ((hb.grown G2 hb.size (fun q h => by cases h; omega)).grown G3 (Nat.le_trans hb.size G2.size) (fun q h => by cases h; omega)).grown G4 (Nat.le_trans (Nat.le_trans hb.size G2.size) G3.size) (fun q h => by cases h; omega)
  have e0 := O2.cell (i := 0) (v := .string x.letters) rfl
  have e1 := O2.cell (i := 1) (v := .slice q.values.a x.values.length q.values.c) rfl
  have e2 := O2.cell (i := 2) (v := .slice q.counts.a x.counts.length q.counts.c) rfl
  have e3 := O2.cell (i := 3) (v := .int .i64 x.blanks) rfl
  have u0 := O3.cell (i := 0) (v := .int .i64 S) rfl
  have u1 := O3.cell (i := 1) (v := .string P) rfl
  have u2 := O3.cell (i := 2) (v := .string C) rfl
  have y0 := r3.cell (i := 0) (v := .int .i64 R) rfl
  have y1 := r3.cell (i := 1) (v := .int .i64 Q) rfl
  have y2 := r3.cell (i := 2) (v := .bool D) rfl
  have y3 := r3.cell (i := 3) (v := .string W) rfl
  clear o0 o1 o2 o3 k0 k1 k2 k3 G2 p0 p1 p2 l0 l1 l2 G3 r0 r1 r2 r3 m0 m1 m2 m3 G4 O2 O3 V2 V3 V4 hb hat
  go_wp2
  refine bodyPost_ret (v := .tuple #[.agg #[.string x.letters, .slice q.values.a x.values.length q.values.c, .slice q.counts.a x.counts.length q.counts.c, .int .i64 x.blanks], .agg #[.int .i64 S, .string P, .string C], .agg #[.int .i64 R, .int .i64 Q, .bool D, .string W]]) (by simp [results, Tryz.results21, go_sem, e0, e1, e2, e3, u0, u1, u2, y0, y1, y2, y3]) rfl ?_
  exact ⟨x, q, ⟨S, P, C⟩, ⟨R, Q, D, W⟩, hl1, hl2, hl3, hP, hC, hW, rfl, HF.out, hb9⟩
end Go.Proofs.YtjdcdhhbgijaoaaGreatDoor
