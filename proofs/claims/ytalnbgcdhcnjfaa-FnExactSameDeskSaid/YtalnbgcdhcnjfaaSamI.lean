/- Contract: the program's SameGame. No condition but that a length fits an int. -/
import Derived.Test.YtalnbgcdhcnjfaaSamG
import Derived.Test.YtalnbgcdhcnjfaaSamK
namespace Go.Proofs.Ytalnbgcdhcnjfaa
open Go.ChangeShapes Go.WideShapes Go.ChangeAt Go.RowKit Go.Sort

set_option maxRecDepth 100000 in
set_option maxHeartbeats 16000000 in
theorem implSameGame_any (x y : Gam) (p q : GaA) (w : World) (ha : x.At p w) (hc : y.At q w) (hf : x.fit) (hg : y.fit) :
    Calls Try.prog 12 #[.agg (gcells x p).toArray, .agg (gcells y q).toArray] w fun e w' => e = .returned (.bool (sameG x y)) ∧ Below w.heap.size w w' := by
  obtain ⟨w2, hw2⟩ : ∃ w2, w2 = (w.alloc (.cells (gcells x p).toArray 51)).alloc (.cells (gcells y q).toArray 51) := ⟨_, rfl⟩
  have hb : Below w.heap.size w w2 := by rw [hw2]; exact ((Below.refl _ _).alloc (Nat.le_refl _) _).alloc (by simp) _
  have VA : Hid (VarAt w2 w.heap.size 51 (gcells x p)) := by
    rw [hw2]
    exact Lib.hid ((VarAt.new w 51 (gcells x p)).kept ((Below.refl _ _).alloc (Nat.le_refl _) _))
  have VB : Hid (VarAt w2 (w.heap.size + 1) 51 (gcells y q)) := by
    rw [hw2]
    have := VarAt.new (w.alloc (.cells (gcells x p).toArray 51)) 51 (gcells y q)
    simp only [World.size_alloc] at this
    exact Lib.hid this
  have HA := Lib.hid (Gam.At.kept ha hb)
  have HC := Lib.hid (Gam.At.kept hc hb)
  have HW2 := Lib.hid hw2
  have H02 : Hid (∀ W, x.At p W → y.At q W → Calls Try.prog 27 #[.agg #[.string x.setup.tiles.letters, .slice p.setup.tiles.values.a x.setup.tiles.values.length p.setup.tiles.values.c, .slice p.setup.tiles.counts.a x.setup.tiles.counts.length p.setup.tiles.counts.c, .int .i64 x.setup.tiles.blanks], .agg #[.string y.setup.tiles.letters, .slice q.setup.tiles.values.a y.setup.tiles.values.length q.setup.tiles.values.c, .slice q.setup.tiles.counts.a y.setup.tiles.counts.length q.setup.tiles.counts.c, .int .i64 y.setup.tiles.blanks]] W fun e w' => e = .returned (.bool (sameT x.setup.tiles y.setup.tiles)) ∧ Below W.heap.size W w') := Lib.hid (fun W h h2 => SameTiles_any x.setup.tiles y.setup.tiles p.setup.tiles q.setup.tiles W h.1.1 h2.1.1 hf.1.1 hg.1.1)
  have HXX : Hid (∀ W, x.At p W → y.At q W → Calls Try.prog 28 #[.agg #[.slice p.setup.lexicon.a x.setup.lexicon.length p.setup.lexicon.c], .agg #[.slice q.setup.lexicon.a y.setup.lexicon.length q.setup.lexicon.c]] W fun e w' => e = .returned (.bool (decide (x.setup.lexicon = y.setup.lexicon))) ∧ Below W.heap.size W w') := Lib.hid (fun W h h2 => SameLexicon_any _ _ _ _ _ _ W h.1.2 h2.1.2 hf.1.2.1.1 hg.1.2.1.1)
  have HRK : Hid (∀ W, x.At p W → y.At q W → Calls Try.prog 29 #[.slice p.racks.a x.racks.length p.racks.c, .slice q.racks.a y.racks.length q.racks.c] W fun e w' => e = .returned (.bool (decide (x.racks = y.racks))) ∧ Drew W w') := Lib.hid (fun W h h2 => equalStr_any _ _ _ _ _ _ W h.2.1 h2.2.1 hf.2.2.2.1.1 hg.2.2.2.1.1)
  have HSC : Hid (∀ W, x.At p W → y.At q W → Calls Try.prog 30 #[.slice p.scores.a x.scores.length p.scores.c, .slice q.scores.a y.scores.length q.scores.c] W fun e w' => e = .returned (.bool (decide (x.scores = y.scores))) ∧ Drew W w') := Lib.hid (fun W h h2 => equalInt_any _ _ _ _ _ _ W h.2.2.1 h2.2.2.1 hf.2.2.2.2.1 hg.2.2.2.2.1)
  have HCL : Hid (∀ W, x.At p W → y.At q W → Calls Try.prog 30 #[.slice p.clocks.a x.clocks.length p.clocks.c, .slice q.clocks.a y.clocks.length q.clocks.c] W fun e w' => e = .returned (.bool (decide (x.clocks = y.clocks))) ∧ Drew W w') := Lib.hid (fun W h h2 => equalInt_any _ _ _ _ _ _ W h.2.2.2 h2.2.2.2 hf.2.2.2.2.2.1 hg.2.2.2.2.2.1)
  have HB1 : Hid (∀ W, (binOp .neq 44 (.agg #[.int .i64 x.setup.board.size, .string x.setup.board.premium, .string x.setup.board.cells]) (.agg #[.int .i64 y.setup.board.size, .string y.setup.board.premium, .string y.setup.board.cells])).run Try.prog W = .ok (.bool (!boardSame x.setup.board y.setup.board)) W) := Lib.hid (fun W => neq_board _ _ _ _ _ _ W)
  have HB2 : Hid (∀ W, (binOp .eql 44 (.agg #[.int .i64 x.board.size, .string x.board.premium, .string x.board.cells]) (.agg #[.int .i64 y.board.size, .string y.board.premium, .string y.board.cells])).run Try.prog W = .ok (.bool (boardSame x.board y.board)) W) := Lib.hid (fun W => eql_board _ _ _ _ _ _ W)
  have HLE : Hid (∀ W, (binOp .eql 49 (.agg #[.int .i64 x.last.kind, .int .i64 x.last.player, .int .i64 x.last.play.row, .int .i64 x.last.play.col, .bool x.last.play.down, .string x.last.play.word, .string x.last.before, .string x.last.drawn, .int .i64 x.last.score, .int .i64 x.last.zeros]) (.agg #[.int .i64 y.last.kind, .int .i64 y.last.player, .int .i64 y.last.play.row, .int .i64 y.last.play.col, .bool y.last.play.down, .string y.last.play.word, .string y.last.before, .string y.last.drawn, .int .i64 y.last.score, .int .i64 y.last.zeros])).run Try.prog W = .ok (.bool (lastEq x.last y.last)) W) := Lib.hid (fun W => eql_lasts x.last y.last W)
  have hgq : Try.prog.eqGuardType Try.prog.depth 44 = false := by kernel_rfl
  have hgl : Try.prog.eqGuardType Try.prog.depth 49 = false := by kernel_rfl
  obtain ⟨bT, kbT⟩ : ∃ b, b = (sameT x.setup.tiles y.setup.tiles) := ⟨_, rfl⟩
  replace kbT := kbT.symm
  obtain ⟨bX, kbX⟩ : ∃ b, b = (decide (x.setup.lexicon = y.setup.lexicon)) := ⟨_, rfl⟩
  replace kbX := kbX.symm
  obtain ⟨bB, kbB⟩ : ∃ b, b = (boardSame x.setup.board y.setup.board) := ⟨_, rfl⟩
  replace kbB := kbB.symm
  obtain ⟨bS, kbS⟩ : ∃ b, b = (x.setup.seconds != y.setup.seconds) := ⟨_, rfl⟩
  replace kbS := kbS.symm
  obtain ⟨bR, kbR⟩ : ∃ b, b = (x.setup.rule != y.setup.rule) := ⟨_, rfl⟩
  replace kbR := kbR.symm
  obtain ⟨bD, kbD⟩ : ∃ b, b = (boardSame x.board y.board) := ⟨_, rfl⟩
  replace kbD := kbD.symm
  obtain ⟨bG, kbG⟩ : ∃ b, b = (x.bag.toList == y.bag.toList) := ⟨_, rfl⟩
  replace kbG := kbG.symm
  obtain ⟨bK, kbK⟩ : ∃ b, b = (decide (x.racks = y.racks)) := ⟨_, rfl⟩
  replace kbK := kbK.symm
  obtain ⟨bC, kbC⟩ : ∃ b, b = (decide (x.scores = y.scores)) := ⟨_, rfl⟩
  replace kbC := kbC.symm
  obtain ⟨bE, kbE⟩ : ∃ b, b = (decide (x.clocks = y.clocks)) := ⟨_, rfl⟩
  replace kbE := kbE.symm
  obtain ⟨bP, kbP⟩ : ∃ b, b = (x.player == y.player) := ⟨_, rfl⟩
  replace kbP := kbP.symm
  obtain ⟨bZ, kbZ⟩ : ∃ b, b = (x.zeros == y.zeros) := ⟨_, rfl⟩
  replace kbZ := kbZ.symm
  obtain ⟨bL, kbL⟩ : ∃ b, b = (lastEq x.last y.last) := ⟨_, rfl⟩
  replace kbL := kbL.symm
  have HS : Hid (sameG x y = ((bT && (bX && (bB && (!bS && !bR)))) && ((bK && (bC && bE)) && (bD && (bG && (bP && (bZ && (bL && (x.over == y.over))))))))) := Lib.hid (by rw [← kbT, ← kbX, ← kbB, ← kbS, ← kbR, ← kbD, ← kbG, ← kbK, ← kbC, ← kbE, ← kbP, ← kbZ, ← kbL]; exact sameG_eq x y)
  rw [kbT] at H02
  rw [kbX] at HXX
  rw [kbK] at HRK
  rw [kbC] at HSC
  rw [kbE] at HCL
  rw [kbB] at HB1
  rw [kbD] at HB2
  rw [kbL] at HLE
  have RX : Hid (∀ W, VarAt W w.heap.size 51 (gcells x p) → W.rangeAt w.heap.size 0 (scells x.setup p.setup)) := Lib.hid (fun W h => range_setup h)
  have RY : Hid (∀ W, VarAt W (w.heap.size + 1) 51 (gcells y q) → W.rangeAt (w.heap.size + 1) 0 (scells y.setup q.setup)) := Lib.hid (fun W h => range_setup h)
  have ZX := Lib.hid (size_setup x.setup p.setup)
  have ZY := Lib.hid (size_setup y.setup q.setup)
  have OX := Lib.hid (scells_one x.setup p.setup)
  have OY := Lib.hid (scells_one y.setup q.setup)
  clear hw2 ha hc hf hg kbT kbX kbB kbD kbK kbC kbE kbL
  obtain ⟨gx, hgx⟩ : ∃ gx, gx = gcells x p := ⟨_, rfl⟩
  obtain ⟨gy, hgy⟩ : ∃ gy, gy = gcells y q := ⟨_, rfl⟩
  have HGX : Hid (gx = gcells x p) := Lib.hid hgx
  have HGY : Hid (gy = gcells y q) := Lib.hid hgy
  rw [← hgx, ← hgy]
  obtain ⟨sx, hsx⟩ : ∃ s, s = scells x.setup p.setup := ⟨_, rfl⟩
  obtain ⟨sy, hsy⟩ : ∃ s, s = scells y.setup q.setup := ⟨_, rfl⟩
  have HSX : Hid (sx = scells x.setup p.setup) := Lib.hid hsx
  have HSY : Hid (sy = scells y.setup q.setup) := Lib.hid hsy
  rw [← hsx] at RX ZX OX
  rw [← hsy] at RY ZY OY
  rw [← hgx] at RX
  rw [← hgy] at RY
  rw [← hgx] at VA
  rw [← hgy] at VB
  rw [← hgx, ← hgy] at HW2
  have LX : Hid (sx.length = 10) := Lib.hid (by rw [hsx]; rfl)
  have LY : Hid (sy.length = 10) := Lib.hid (by rw [hsy]; rfl)
  clear hgx hgy hsx hsy
  generalize sameG x y = sG at *
  go_enter Try.func12, Try.ntmps12
  go_upto_region 1 with fail
  rw [← HW2.out]
  clear HW2
  have hd : Below w2.heap.size w2 w2.drew := (Below.refl _ _).drew
  replace HA := Lib.hid (Gam.At.kept HA.out hd)
  replace HC := Lib.hid (Gam.At.kept HC.out hd)
  replace hb := hb.trans (hd.mono hb.size)
  replace VA := Lib.hid (VA.out.kept hd)
  replace VB := Lib.hid (VB.out.kept hd)
  clear hd
  refine wp_region_held_drew (S := fun W => W.rangeAt w.heap.size 0 sx ∧ W.rangeAt (w.heap.size + 1) 0 sy) (by kernel_rfl) ⟨RX.out _ VA.out, RY.out _ VB.out⟩ (fun hHeld => ?_)
  generalize w2.drew = wd at *
  refine slotA 0 7 (.pointer (some ⟨w.heap.size, 0, none⟩)) ?_
  simp only [S3]
  refine slotA 1 8 (.agg sx.toArray) ?_ (hy := yieldsIf_load_mid (by rfl) 46 _ rfl w.heap.size 0 rfl sx _ (fun _ h => h.1) Try.underlying46 rfl ZX.out)
  simp only [S3]
  refine slotA 2 9 (.pointer (some ⟨w.heap.size + 1, 0, none⟩)) ?_
  simp only [S3]
  refine slotA 3 10 (.agg sy.toArray) ?_ (hy := yieldsIf_load_mid (by rfl) 46 _ rfl (w.heap.size + 1) 0 rfl sy _ (fun _ h => h.2) Try.underlying46 rfl ZY.out)
  simp only [S3]
  refine wpAnyH_ready (rs := [4, 5]) (by kernel_rfl) (by simp) ?_
  refine AllReadyH.cons (o := _) rfl (fun K hK => ?_) (AllReadyH.cons (o := _) rfl (fun K hK => ?_) AllReadyH.nil)
  · have hx : Below wd.heap.size wd (wd.alloc (.cells #[.string ⟨#[]⟩, .slice none 0 0, .slice none 0 0, .int .i64 0, .slice none 0 0, .int .i64 0, .string ⟨#[]⟩, .string ⟨#[]⟩, .int .i64 0, .int .i64 0] 46)) := (Below.refl _ _).alloc (Nat.le_refl _) _
    have N1 := VarAt.new wd 46 [.string ⟨#[]⟩, .slice none 0 0, .slice none 0 0, .int .i64 0, .slice none 0 0, .int .i64 0, .string ⟨#[]⟩, .string ⟨#[]⟩, .int .i64 0, .int .i64 0]
    go_simp
    refine hK.out _ _ ⟨RX.out _ (VA.out.kept hx), RY.out _ (VB.out.kept hx)⟩ (fun hHeld2 => ?_)
    clear hK K hHeld
    have hz : (wd.alloc (.cells #[.string ⟨#[]⟩, .slice none 0 0, .slice none 0 0, .int .i64 0, .slice none 0 0, .int .i64 0, .string ⟨#[]⟩, .string ⟨#[]⟩, .int .i64 0, .int .i64 0] 46)).heap.size = wd.heap.size + 1 := by simp only [World.size_alloc]
    generalize wd.alloc (.cells #[.string ⟨#[]⟩, .slice none 0 0, .slice none 0 0, .int .i64 0, .slice none 0 0, .int .i64 0, .string ⟨#[]⟩, .string ⟨#[]⟩, .int .i64 0, .int .i64 0] 46) = w3 at *
    refine wpAnyH_ready (rs := [5]) (by kernel_rfl) (by simp) ?_
    refine AllReadyH.cons (o := _) rfl (fun K hK => ?_) AllReadyH.nil
    have hx2 : Below w3.heap.size w3 (w3.alloc (.cells #[.string ⟨#[]⟩, .slice none 0 0, .slice none 0 0, .int .i64 0, .slice none 0 0, .int .i64 0, .string ⟨#[]⟩, .string ⟨#[]⟩, .int .i64 0, .int .i64 0] 46)) := (Below.refl _ _).alloc (Nat.le_refl _) _
    have N2 := VarAt.new w3 46 [.string ⟨#[]⟩, .slice none 0 0, .slice none 0 0, .int .i64 0, .slice none 0 0, .int .i64 0, .string ⟨#[]⟩, .string ⟨#[]⟩, .int .i64 0, .int .i64 0]
    replace N1 := N1.kept hx2
    replace hx2 := hx.trans (hx2.mono (by omega))
    go_simp
    refine hK.out _ _ ⟨RX.out _ (VA.out.kept hx2), RY.out _ (VB.out.kept hx2)⟩ (fun hHeld => ?_)
    clear hK K hHeld2 hx
    rw [hz] at N2
    have hz4 : (w3.alloc (.cells #[.string ⟨#[]⟩, .slice none 0 0, .slice none 0 0, .int .i64 0, .slice none 0 0, .int .i64 0, .string ⟨#[]⟩, .string ⟨#[]⟩, .int .i64 0, .int .i64 0] 46)).heap.size = wd.heap.size + 1 + 1 := by simp only [World.size_alloc, hz]
    generalize w3.alloc (.cells #[.string ⟨#[]⟩, .slice none 0 0, .slice none 0 0, .int .i64 0, .slice none 0 0, .int .i64 0, .string ⟨#[]⟩, .string ⟨#[]⟩, .int .i64 0, .int .i64 0] 46) = w4 at *
    try rw [hz]
    clear hz
    have VX := Lib.hid N1
    have VY := Lib.hid N2
    clear N1 N2
    obtain ⟨oX, kX⟩ := VX.out.put sx (by rw [LX.out]; rfl)
    have tX := VX.out.there (n := sx.length) (by rw [LX.out]; rfl)
    replace VY := Lib.hid (VY.out.grown kX (by simp))
    replace hx2 := hx2.grown kX (by omega) (fun q h => by cases h; omega)
    refine wpAnyH_ready (rs := [6]) (by kernel_rfl) (by simp) ?_
    refine AllReadyH.cons (o := _) rfl (fun K hK => ?_) AllReadyH.nil
    refine step_store0 rfl rfl 46 (.tmp 5) (.tmp 8) rfl wd.heap.size 0 sx.toArray rfl rfl tX ZX.out (all_oneCell_toArray OX.out) ?_
    refine hK.out _ _ ⟨RX.out _ (VA.out.kept hx2), RY.out _ (VB.out.kept hx2)⟩ (fun hHeld2 => ?_)
    clear hK K hHeld tX
    change wpAnyH _ _ _ _ _ _ _ _ (w4.setCells wd.heap.size 0 sx)
    change _ ∧ _ at hHeld2
    replace VX := Lib.hid oX
    have hz5 := kX.size
    generalize w4.setCells wd.heap.size 0 sx = w5 at *
    clear oX kX
    obtain ⟨oY, kY⟩ := VY.out.put sy (by rw [LY.out]; rfl)
    have tY := VY.out.there (n := sy.length) (by rw [LY.out]; rfl)
    replace VX := Lib.hid (VX.out.grown kY (by simp))
    replace hx2 := hx2.grown kY (by omega) (fun q h => by cases h; omega)
    refine wpAnyH_ready (rs := [7]) (by kernel_rfl) (by simp) ?_
    refine AllReadyH.cons (o := _) rfl (fun K hK => ?_) AllReadyH.nil
    refine step_store0 rfl rfl 46 (.tmp 6) (.tmp 10) rfl (wd.heap.size + 1) 0 sy.toArray rfl rfl tY ZY.out (all_oneCell_toArray OY.out) ?_
    refine hK.out _ _ ⟨RX.out _ (VA.out.kept hx2), RY.out _ (VB.out.kept hx2)⟩ (fun hHeld => ?_)
    clear hK K hHeld2 tY
    change wpAnyH _ _ _ _ _ _ _ _ (w5.setCells (wd.heap.size + 1) 0 sy)
    change _ ∧ _ at hHeld
    replace VY := Lib.hid oY
    generalize w5.setCells (wd.heap.size + 1) 0 sy = w6 at *
    clear oY kY hHeld
    refine wpAnyH_done (by kernel_rfl) ?_ _
    replace HA := Lib.hid (Gam.At.kept HA.out hx2)
    replace HC := Lib.hid (Gam.At.kept HC.out hx2)
    replace hb := hb.trans (hx2.mono hb.size)
    replace VA := Lib.hid (VA.out.kept hx2)
    replace VB := Lib.hid (VB.out.kept hx2)
    clear hx2
    clear RX RY ZX ZY OX OY LX LY hz5
    skip
    have c0 := VX.out.cell (i := 0) (v := .string x.setup.tiles.letters) (by rw [HSX.out]; rfl)
    have d0 := VY.out.cell (i := 0) (v := .string y.setup.tiles.letters) (by rw [HSY.out]; rfl)
    have c1 := VX.out.cell (i := 1) (v := .slice p.setup.tiles.values.a x.setup.tiles.values.length p.setup.tiles.values.c) (by rw [HSX.out]; rfl)
    have d1 := VY.out.cell (i := 1) (v := .slice q.setup.tiles.values.a y.setup.tiles.values.length q.setup.tiles.values.c) (by rw [HSY.out]; rfl)
    have c2 := VX.out.cell (i := 2) (v := .slice p.setup.tiles.counts.a x.setup.tiles.counts.length p.setup.tiles.counts.c) (by rw [HSX.out]; rfl)
    have d2 := VY.out.cell (i := 2) (v := .slice q.setup.tiles.counts.a y.setup.tiles.counts.length q.setup.tiles.counts.c) (by rw [HSY.out]; rfl)
    have c3 := VX.out.cell (i := 3) (v := .int .i64 x.setup.tiles.blanks) (by rw [HSX.out]; rfl)
    have d3 := VY.out.cell (i := 3) (v := .int .i64 y.setup.tiles.blanks) (by rw [HSY.out]; rfl)
    go_wp2_with fail
    refine (H02.out _ HA.out HC.out).mono ?_
    rintro e w7 ⟨rfl, hd⟩
    replace HA := Lib.hid (Gam.At.kept HA.out hd)
    replace HC := Lib.hid (Gam.At.kept HC.out hd)
    replace hb := hb.trans (hd.mono hb.size)
    replace VA := Lib.hid (VA.out.kept hd)
    replace VB := Lib.hid (VB.out.kept hd)
    replace VX := Lib.hid (VX.out.kept hd)
    replace VY := Lib.hid (VY.out.kept hd)
    clear hd
    clear H02
    clear c0 d0 c1 d1 c2 d2 c3 d3
    cases bT with
    | false =>
      have HN : Hid (sG = false) := Lib.hid (by rw [HS.out]; rfl)
      go_wp2
      go_ret
      exact ⟨ret_bool HN.out.symm, hb⟩
    | true =>
      have c4 := VX.out.cell (i := 4) (v := .slice p.setup.lexicon.a x.setup.lexicon.length p.setup.lexicon.c) (by rw [HSX.out]; rfl)
      have d4 := VY.out.cell (i := 4) (v := .slice q.setup.lexicon.a y.setup.lexicon.length q.setup.lexicon.c) (by rw [HSY.out]; rfl)
      go_wp2_with fail
      refine (HXX.out _ HA.out HC.out).mono ?_
      rintro e w8 ⟨rfl, hd⟩
      replace HA := Lib.hid (Gam.At.kept HA.out hd)
      replace HC := Lib.hid (Gam.At.kept HC.out hd)
      replace hb := hb.trans (hd.mono hb.size)
      replace VA := Lib.hid (VA.out.kept hd)
      replace VB := Lib.hid (VB.out.kept hd)
      replace VX := Lib.hid (VX.out.kept hd)
      replace VY := Lib.hid (VY.out.kept hd)
      clear hd
      clear HXX
      clear c4 d4
      cases bX with
      | false =>
        have HN : Hid (sG = false) := Lib.hid (by rw [HS.out]; rfl)
        go_wp2
        go_ret
        exact ⟨ret_bool HN.out.symm, hb⟩
      | true =>
        have c5 := VX.out.cell (i := 5) (v := .int .i64 x.setup.board.size) (by rw [HSX.out]; rfl)
        have d5 := VY.out.cell (i := 5) (v := .int .i64 y.setup.board.size) (by rw [HSY.out]; rfl)
        have c6 := VX.out.cell (i := 6) (v := .string x.setup.board.premium) (by rw [HSX.out]; rfl)
        have d6 := VY.out.cell (i := 6) (v := .string y.setup.board.premium) (by rw [HSY.out]; rfl)
        have c7 := VX.out.cell (i := 7) (v := .string x.setup.board.cells) (by rw [HSX.out]; rfl)
        have d7 := VY.out.cell (i := 7) (v := .string y.setup.board.cells) (by rw [HSY.out]; rfl)
        have c8 := VX.out.cell (i := 8) (v := .int .i64 x.setup.seconds) (by rw [HSX.out]; rfl)
        have d8 := VY.out.cell (i := 8) (v := .int .i64 y.setup.seconds) (by rw [HSY.out]; rfl)
        have c9 := VX.out.cell (i := 9) (v := .int .i64 x.setup.rule) (by rw [HSX.out]; rfl)
        have d9 := VY.out.cell (i := 9) (v := .int .i64 y.setup.rule) (by rw [HSY.out]; rfl)
        have hb1 := HB1.out
        clear HB1
        cases bB with
        | false =>
          have HN : Hid (sG = false) := Lib.hid (by rw [HS.out]; rfl)
          go_wp2
          go_ret
          exact ⟨ret_bool HN.out.symm, hb⟩
        | true =>
          cases bS with
          | true =>
            have HN : Hid (sG = false) := Lib.hid (by rw [HS.out]; rfl)
            go_wp2
            go_ret
            exact ⟨ret_bool HN.out.symm, hb⟩
          | false =>
            cases bR with
            | true =>
              have HN : Hid (sG = false) := Lib.hid (by rw [HS.out]; rfl)
              go_wp2
              go_ret
              exact ⟨ret_bool HN.out.symm, hb⟩
            | false =>
              go_upto_region 4 with fail
              clear c5 d5 c6 d6 c7 d7 c8 d8 c9 d9
              clear hb1 kbS kbR VX VY HSX HSY
              have c14 := VA.out.cell (i := 14) (v := .slice p.racks.a x.racks.length p.racks.c) (by rw [HGX.out]; rfl)
              have d14 := VB.out.cell (i := 14) (v := .slice q.racks.a y.racks.length q.racks.c) (by rw [HGY.out]; rfl)
              go_wp2_with fail
              refine (HRK.out _ HA.out HC.out).mono ?_
              rintro e w9 ⟨rfl, hd0⟩
              have hd := hd0.bel
              clear hd0
              replace HA := Lib.hid (Gam.At.kept HA.out hd)
              replace HC := Lib.hid (Gam.At.kept HC.out hd)
              replace hb := hb.trans (hd.mono hb.size)
              replace VA := Lib.hid (VA.out.kept hd)
              replace VB := Lib.hid (VB.out.kept hd)
              clear hd
              clear HRK
              clear c14 d14
              cases bK with
              | false =>
                have HN : Hid (sG = false) := Lib.hid (by rw [HS.out]; rfl)
                go_wp2
                go_ret
                exact ⟨ret_bool HN.out.symm, hb⟩
              | true =>
                have c15 := VA.out.cell (i := 15) (v := .slice p.scores.a x.scores.length p.scores.c) (by rw [HGX.out]; rfl)
                have d15 := VB.out.cell (i := 15) (v := .slice q.scores.a y.scores.length q.scores.c) (by rw [HGY.out]; rfl)
                go_wp2_with fail
                refine (HSC.out _ HA.out HC.out).mono ?_
                rintro e w10 ⟨rfl, hd0⟩
                have hd := hd0.bel
                clear hd0
                replace HA := Lib.hid (Gam.At.kept HA.out hd)
                replace HC := Lib.hid (Gam.At.kept HC.out hd)
                replace hb := hb.trans (hd.mono hb.size)
                replace VA := Lib.hid (VA.out.kept hd)
                replace VB := Lib.hid (VB.out.kept hd)
                clear hd
                clear HSC
                clear c15 d15
                cases bC with
                | false =>
                  have HN : Hid (sG = false) := Lib.hid (by rw [HS.out]; rfl)
                  go_wp2
                  go_ret
                  exact ⟨ret_bool HN.out.symm, hb⟩
                | true =>
                  have c16 := VA.out.cell (i := 16) (v := .slice p.clocks.a x.clocks.length p.clocks.c) (by rw [HGX.out]; rfl)
                  have d16 := VB.out.cell (i := 16) (v := .slice q.clocks.a y.clocks.length q.clocks.c) (by rw [HGY.out]; rfl)
                  go_wp2_with fail
                  refine (HCL.out _ HA.out HC.out).mono ?_
                  rintro e w11 ⟨rfl, hd0⟩
                  have hd := hd0.bel
                  clear hd0
                  replace HA := Lib.hid (Gam.At.kept HA.out hd)
                  replace HC := Lib.hid (Gam.At.kept HC.out hd)
                  replace hb := hb.trans (hd.mono hb.size)
                  replace VA := Lib.hid (VA.out.kept hd)
                  replace VB := Lib.hid (VB.out.kept hd)
                  clear hd
                  clear HCL
                  clear c16 d16
                  cases bE with
                  | false =>
                    have HN : Hid (sG = false) := Lib.hid (by rw [HS.out]; rfl)
                    go_wp2
                    go_ret
                    exact ⟨ret_bool HN.out.symm, hb⟩
                  | true =>
                    have c10 := VA.out.cell (i := 10) (v := .int .i64 x.board.size) (by rw [HGX.out]; rfl)
                    have d10 := VB.out.cell (i := 10) (v := .int .i64 y.board.size) (by rw [HGY.out]; rfl)
                    have c11 := VA.out.cell (i := 11) (v := .string x.board.premium) (by rw [HGX.out]; rfl)
                    have d11 := VB.out.cell (i := 11) (v := .string y.board.premium) (by rw [HGY.out]; rfl)
                    have c12 := VA.out.cell (i := 12) (v := .string x.board.cells) (by rw [HGX.out]; rfl)
                    have d12 := VB.out.cell (i := 12) (v := .string y.board.cells) (by rw [HGY.out]; rfl)
                    have c13 := VA.out.cell (i := 13) (v := .string x.bag) (by rw [HGX.out]; rfl)
                    have d13 := VB.out.cell (i := 13) (v := .string y.bag) (by rw [HGY.out]; rfl)
                    have c17 := VA.out.cell (i := 17) (v := .int .i64 x.player) (by rw [HGX.out]; rfl)
                    have d17 := VB.out.cell (i := 17) (v := .int .i64 y.player) (by rw [HGY.out]; rfl)
                    have c18 := VA.out.cell (i := 18) (v := .int .i64 x.zeros) (by rw [HGX.out]; rfl)
                    have d18 := VB.out.cell (i := 18) (v := .int .i64 y.zeros) (by rw [HGY.out]; rfl)
                    have c19 := VA.out.cell (i := 19) (v := .int .i64 x.last.kind) (by rw [HGX.out]; rfl)
                    have d19 := VB.out.cell (i := 19) (v := .int .i64 y.last.kind) (by rw [HGY.out]; rfl)
                    have c20 := VA.out.cell (i := 20) (v := .int .i64 x.last.player) (by rw [HGX.out]; rfl)
                    have d20 := VB.out.cell (i := 20) (v := .int .i64 y.last.player) (by rw [HGY.out]; rfl)
                    have c21 := VA.out.cell (i := 21) (v := .int .i64 x.last.play.row) (by rw [HGX.out]; rfl)
                    have d21 := VB.out.cell (i := 21) (v := .int .i64 y.last.play.row) (by rw [HGY.out]; rfl)
                    have c22 := VA.out.cell (i := 22) (v := .int .i64 x.last.play.col) (by rw [HGX.out]; rfl)
                    have d22 := VB.out.cell (i := 22) (v := .int .i64 y.last.play.col) (by rw [HGY.out]; rfl)
                    have c23 := VA.out.cell (i := 23) (v := .bool x.last.play.down) (by rw [HGX.out]; rfl)
                    have d23 := VB.out.cell (i := 23) (v := .bool y.last.play.down) (by rw [HGY.out]; rfl)
                    have c24 := VA.out.cell (i := 24) (v := .string x.last.play.word) (by rw [HGX.out]; rfl)
                    have d24 := VB.out.cell (i := 24) (v := .string y.last.play.word) (by rw [HGY.out]; rfl)
                    have c25 := VA.out.cell (i := 25) (v := .string x.last.before) (by rw [HGX.out]; rfl)
                    have d25 := VB.out.cell (i := 25) (v := .string y.last.before) (by rw [HGY.out]; rfl)
                    have c26 := VA.out.cell (i := 26) (v := .string x.last.drawn) (by rw [HGX.out]; rfl)
                    have d26 := VB.out.cell (i := 26) (v := .string y.last.drawn) (by rw [HGY.out]; rfl)
                    have c27 := VA.out.cell (i := 27) (v := .int .i64 x.last.score) (by rw [HGX.out]; rfl)
                    have d27 := VB.out.cell (i := 27) (v := .int .i64 y.last.score) (by rw [HGY.out]; rfl)
                    have c28 := VA.out.cell (i := 28) (v := .int .i64 x.last.zeros) (by rw [HGX.out]; rfl)
                    have d28 := VB.out.cell (i := 28) (v := .int .i64 y.last.zeros) (by rw [HGY.out]; rfl)
                    have c29 := VA.out.cell (i := 29) (v := .bool x.over) (by rw [HGX.out]; rfl)
                    have d29 := VB.out.cell (i := 29) (v := .bool y.over) (by rw [HGY.out]; rfl)
                    have hb2 := HB2.out
                    have hle := HLE.out
                    clear HB2 HLE
                    cases bD with
                    | false =>
                      have HN : Hid (sG = false) := Lib.hid (by rw [HS.out]; rfl)
                      go_wp2
                      go_ret
                      exact ⟨ret_bool HN.out.symm, hb⟩
                    | true =>
                      cases bG with
                      | false =>
                        have HN : Hid (sG = false) := Lib.hid (by rw [HS.out]; rfl)
                        go_wp2
                        go_ret
                        exact ⟨ret_bool HN.out.symm, hb⟩
                      | true =>
                        cases bP with
                        | false =>
                          have HN : Hid (sG = false) := Lib.hid (by rw [HS.out]; rfl)
                          go_wp2
                          go_ret
                          exact ⟨ret_bool HN.out.symm, hb⟩
                        | true =>
                          cases bZ with
                          | false =>
                            have HN : Hid (sG = false) := Lib.hid (by rw [HS.out]; rfl)
                            go_wp2
                            go_ret
                            exact ⟨ret_bool HN.out.symm, hb⟩
                          | true =>
                            cases bL with
                            | false =>
                              have HN : Hid (sG = false) := Lib.hid (by rw [HS.out]; rfl)
                              go_wp2
                              go_ret
                              exact ⟨ret_bool HN.out.symm, hb⟩
                            | true =>
                              have HN : Hid (sG = (x.over == y.over)) := Lib.hid (by rw [HS.out]; rfl)
                              go_wp2
                              go_ret
                              exact ⟨ret_bool HN.out.symm, hb⟩
  · have hx : Below wd.heap.size wd (wd.alloc (.cells #[.string ⟨#[]⟩, .slice none 0 0, .slice none 0 0, .int .i64 0, .slice none 0 0, .int .i64 0, .string ⟨#[]⟩, .string ⟨#[]⟩, .int .i64 0, .int .i64 0] 46)) := (Below.refl _ _).alloc (Nat.le_refl _) _
    have N1 := VarAt.new wd 46 [.string ⟨#[]⟩, .slice none 0 0, .slice none 0 0, .int .i64 0, .slice none 0 0, .int .i64 0, .string ⟨#[]⟩, .string ⟨#[]⟩, .int .i64 0, .int .i64 0]
    go_simp
    refine hK.out _ _ ⟨RX.out _ (VA.out.kept hx), RY.out _ (VB.out.kept hx)⟩ (fun hHeld2 => ?_)
    clear hK K hHeld
    have hz : (wd.alloc (.cells #[.string ⟨#[]⟩, .slice none 0 0, .slice none 0 0, .int .i64 0, .slice none 0 0, .int .i64 0, .string ⟨#[]⟩, .string ⟨#[]⟩, .int .i64 0, .int .i64 0] 46)).heap.size = wd.heap.size + 1 := by simp only [World.size_alloc]
    generalize wd.alloc (.cells #[.string ⟨#[]⟩, .slice none 0 0, .slice none 0 0, .int .i64 0, .slice none 0 0, .int .i64 0, .string ⟨#[]⟩, .string ⟨#[]⟩, .int .i64 0, .int .i64 0] 46) = w3 at *
    refine wpAnyH_ready (rs := [4]) (by kernel_rfl) (by simp) ?_
    refine AllReadyH.cons (o := _) rfl (fun K hK => ?_) AllReadyH.nil
    have hx2 : Below w3.heap.size w3 (w3.alloc (.cells #[.string ⟨#[]⟩, .slice none 0 0, .slice none 0 0, .int .i64 0, .slice none 0 0, .int .i64 0, .string ⟨#[]⟩, .string ⟨#[]⟩, .int .i64 0, .int .i64 0] 46)) := (Below.refl _ _).alloc (Nat.le_refl _) _
    have N2 := VarAt.new w3 46 [.string ⟨#[]⟩, .slice none 0 0, .slice none 0 0, .int .i64 0, .slice none 0 0, .int .i64 0, .string ⟨#[]⟩, .string ⟨#[]⟩, .int .i64 0, .int .i64 0]
    replace N1 := N1.kept hx2
    replace hx2 := hx.trans (hx2.mono (by omega))
    go_simp
    refine hK.out _ _ ⟨RX.out _ (VA.out.kept hx2), RY.out _ (VB.out.kept hx2)⟩ (fun hHeld => ?_)
    clear hK K hHeld2 hx
    rw [hz] at N2
    have hz4 : (w3.alloc (.cells #[.string ⟨#[]⟩, .slice none 0 0, .slice none 0 0, .int .i64 0, .slice none 0 0, .int .i64 0, .string ⟨#[]⟩, .string ⟨#[]⟩, .int .i64 0, .int .i64 0] 46)).heap.size = wd.heap.size + 1 + 1 := by simp only [World.size_alloc, hz]
    generalize w3.alloc (.cells #[.string ⟨#[]⟩, .slice none 0 0, .slice none 0 0, .int .i64 0, .slice none 0 0, .int .i64 0, .string ⟨#[]⟩, .string ⟨#[]⟩, .int .i64 0, .int .i64 0] 46) = w4 at *
    try rw [hz]
    clear hz
    have VX := Lib.hid N2
    have VY := Lib.hid N1
    clear N1 N2
    obtain ⟨oX, kX⟩ := VX.out.put sx (by rw [LX.out]; rfl)
    have tX := VX.out.there (n := sx.length) (by rw [LX.out]; rfl)
    replace VY := Lib.hid (VY.out.grown kX (by simp))
    replace hx2 := hx2.grown kX (by omega) (fun q h => by cases h; omega)
    refine wpAnyH_ready (rs := [6]) (by kernel_rfl) (by simp) ?_
    refine AllReadyH.cons (o := _) rfl (fun K hK => ?_) AllReadyH.nil
    refine step_store0 rfl rfl 46 (.tmp 5) (.tmp 8) rfl (wd.heap.size + 1) 0 sx.toArray rfl rfl tX ZX.out (all_oneCell_toArray OX.out) ?_
    refine hK.out _ _ ⟨RX.out _ (VA.out.kept hx2), RY.out _ (VB.out.kept hx2)⟩ (fun hHeld2 => ?_)
    clear hK K hHeld tX
    change wpAnyH _ _ _ _ _ _ _ _ (w4.setCells (wd.heap.size + 1) 0 sx)
    change _ ∧ _ at hHeld2
    replace VX := Lib.hid oX
    have hz5 := kX.size
    generalize w4.setCells (wd.heap.size + 1) 0 sx = w5 at *
    clear oX kX
    obtain ⟨oY, kY⟩ := VY.out.put sy (by rw [LY.out]; rfl)
    have tY := VY.out.there (n := sy.length) (by rw [LY.out]; rfl)
    replace VX := Lib.hid (VX.out.grown kY (by simp))
    replace hx2 := hx2.grown kY (by omega) (fun q h => by cases h; omega)
    refine wpAnyH_ready (rs := [7]) (by kernel_rfl) (by simp) ?_
    refine AllReadyH.cons (o := _) rfl (fun K hK => ?_) AllReadyH.nil
    refine step_store0 rfl rfl 46 (.tmp 6) (.tmp 10) rfl wd.heap.size 0 sy.toArray rfl rfl tY ZY.out (all_oneCell_toArray OY.out) ?_
    refine hK.out _ _ ⟨RX.out _ (VA.out.kept hx2), RY.out _ (VB.out.kept hx2)⟩ (fun hHeld => ?_)
    clear hK K hHeld2 tY
    change wpAnyH _ _ _ _ _ _ _ _ (w5.setCells wd.heap.size 0 sy)
    change _ ∧ _ at hHeld
    replace VY := Lib.hid oY
    generalize w5.setCells wd.heap.size 0 sy = w6 at *
    clear oY kY hHeld
    refine wpAnyH_done (by kernel_rfl) ?_ _
    replace HA := Lib.hid (Gam.At.kept HA.out hx2)
    replace HC := Lib.hid (Gam.At.kept HC.out hx2)
    replace hb := hb.trans (hx2.mono hb.size)
    replace VA := Lib.hid (VA.out.kept hx2)
    replace VB := Lib.hid (VB.out.kept hx2)
    clear hx2
    clear RX RY ZX ZY OX OY LX LY hz5
    skip
    have c0 := VX.out.cell (i := 0) (v := .string x.setup.tiles.letters) (by rw [HSX.out]; rfl)
    have d0 := VY.out.cell (i := 0) (v := .string y.setup.tiles.letters) (by rw [HSY.out]; rfl)
    have c1 := VX.out.cell (i := 1) (v := .slice p.setup.tiles.values.a x.setup.tiles.values.length p.setup.tiles.values.c) (by rw [HSX.out]; rfl)
    have d1 := VY.out.cell (i := 1) (v := .slice q.setup.tiles.values.a y.setup.tiles.values.length q.setup.tiles.values.c) (by rw [HSY.out]; rfl)
    have c2 := VX.out.cell (i := 2) (v := .slice p.setup.tiles.counts.a x.setup.tiles.counts.length p.setup.tiles.counts.c) (by rw [HSX.out]; rfl)
    have d2 := VY.out.cell (i := 2) (v := .slice q.setup.tiles.counts.a y.setup.tiles.counts.length q.setup.tiles.counts.c) (by rw [HSY.out]; rfl)
    have c3 := VX.out.cell (i := 3) (v := .int .i64 x.setup.tiles.blanks) (by rw [HSX.out]; rfl)
    have d3 := VY.out.cell (i := 3) (v := .int .i64 y.setup.tiles.blanks) (by rw [HSY.out]; rfl)
    go_wp2_with fail
    refine (H02.out _ HA.out HC.out).mono ?_
    rintro e w7 ⟨rfl, hd⟩
    replace HA := Lib.hid (Gam.At.kept HA.out hd)
    replace HC := Lib.hid (Gam.At.kept HC.out hd)
    replace hb := hb.trans (hd.mono hb.size)
    replace VA := Lib.hid (VA.out.kept hd)
    replace VB := Lib.hid (VB.out.kept hd)
    replace VX := Lib.hid (VX.out.kept hd)
    replace VY := Lib.hid (VY.out.kept hd)
    clear hd
    clear H02
    clear c0 d0 c1 d1 c2 d2 c3 d3
    cases bT with
    | false =>
      have HN : Hid (sG = false) := Lib.hid (by rw [HS.out]; rfl)
      go_wp2
      go_ret
      exact ⟨ret_bool HN.out.symm, hb⟩
    | true =>
      have c4 := VX.out.cell (i := 4) (v := .slice p.setup.lexicon.a x.setup.lexicon.length p.setup.lexicon.c) (by rw [HSX.out]; rfl)
      have d4 := VY.out.cell (i := 4) (v := .slice q.setup.lexicon.a y.setup.lexicon.length q.setup.lexicon.c) (by rw [HSY.out]; rfl)
      go_wp2_with fail
      refine (HXX.out _ HA.out HC.out).mono ?_
      rintro e w8 ⟨rfl, hd⟩
      replace HA := Lib.hid (Gam.At.kept HA.out hd)
      replace HC := Lib.hid (Gam.At.kept HC.out hd)
      replace hb := hb.trans (hd.mono hb.size)
      replace VA := Lib.hid (VA.out.kept hd)
      replace VB := Lib.hid (VB.out.kept hd)
      replace VX := Lib.hid (VX.out.kept hd)
      replace VY := Lib.hid (VY.out.kept hd)
      clear hd
      clear HXX
      clear c4 d4
      cases bX with
      | false =>
        have HN : Hid (sG = false) := Lib.hid (by rw [HS.out]; rfl)
        go_wp2
        go_ret
        exact ⟨ret_bool HN.out.symm, hb⟩
      | true =>
        have c5 := VX.out.cell (i := 5) (v := .int .i64 x.setup.board.size) (by rw [HSX.out]; rfl)
        have d5 := VY.out.cell (i := 5) (v := .int .i64 y.setup.board.size) (by rw [HSY.out]; rfl)
        have c6 := VX.out.cell (i := 6) (v := .string x.setup.board.premium) (by rw [HSX.out]; rfl)
        have d6 := VY.out.cell (i := 6) (v := .string y.setup.board.premium) (by rw [HSY.out]; rfl)
        have c7 := VX.out.cell (i := 7) (v := .string x.setup.board.cells) (by rw [HSX.out]; rfl)
        have d7 := VY.out.cell (i := 7) (v := .string y.setup.board.cells) (by rw [HSY.out]; rfl)
        have c8 := VX.out.cell (i := 8) (v := .int .i64 x.setup.seconds) (by rw [HSX.out]; rfl)
        have d8 := VY.out.cell (i := 8) (v := .int .i64 y.setup.seconds) (by rw [HSY.out]; rfl)
        have c9 := VX.out.cell (i := 9) (v := .int .i64 x.setup.rule) (by rw [HSX.out]; rfl)
        have d9 := VY.out.cell (i := 9) (v := .int .i64 y.setup.rule) (by rw [HSY.out]; rfl)
        have hb1 := HB1.out
        clear HB1
        cases bB with
        | false =>
          have HN : Hid (sG = false) := Lib.hid (by rw [HS.out]; rfl)
          go_wp2
          go_ret
          exact ⟨ret_bool HN.out.symm, hb⟩
        | true =>
          cases bS with
          | true =>
            have HN : Hid (sG = false) := Lib.hid (by rw [HS.out]; rfl)
            go_wp2
            go_ret
            exact ⟨ret_bool HN.out.symm, hb⟩
          | false =>
            cases bR with
            | true =>
              have HN : Hid (sG = false) := Lib.hid (by rw [HS.out]; rfl)
              go_wp2
              go_ret
              exact ⟨ret_bool HN.out.symm, hb⟩
            | false =>
              go_upto_region 4 with fail
              clear c5 d5 c6 d6 c7 d7 c8 d8 c9 d9
              clear hb1 kbS kbR VX VY HSX HSY
              have c14 := VA.out.cell (i := 14) (v := .slice p.racks.a x.racks.length p.racks.c) (by rw [HGX.out]; rfl)
              have d14 := VB.out.cell (i := 14) (v := .slice q.racks.a y.racks.length q.racks.c) (by rw [HGY.out]; rfl)
              go_wp2_with fail
              refine (HRK.out _ HA.out HC.out).mono ?_
              rintro e w9 ⟨rfl, hd0⟩
              have hd := hd0.bel
              clear hd0
              replace HA := Lib.hid (Gam.At.kept HA.out hd)
              replace HC := Lib.hid (Gam.At.kept HC.out hd)
              replace hb := hb.trans (hd.mono hb.size)
              replace VA := Lib.hid (VA.out.kept hd)
              replace VB := Lib.hid (VB.out.kept hd)
              clear hd
              clear HRK
              clear c14 d14
              cases bK with
              | false =>
                have HN : Hid (sG = false) := Lib.hid (by rw [HS.out]; rfl)
                go_wp2
                go_ret
                exact ⟨ret_bool HN.out.symm, hb⟩
              | true =>
                have c15 := VA.out.cell (i := 15) (v := .slice p.scores.a x.scores.length p.scores.c) (by rw [HGX.out]; rfl)
                have d15 := VB.out.cell (i := 15) (v := .slice q.scores.a y.scores.length q.scores.c) (by rw [HGY.out]; rfl)
                go_wp2_with fail
                refine (HSC.out _ HA.out HC.out).mono ?_
                rintro e w10 ⟨rfl, hd0⟩
                have hd := hd0.bel
                clear hd0
                replace HA := Lib.hid (Gam.At.kept HA.out hd)
                replace HC := Lib.hid (Gam.At.kept HC.out hd)
                replace hb := hb.trans (hd.mono hb.size)
                replace VA := Lib.hid (VA.out.kept hd)
                replace VB := Lib.hid (VB.out.kept hd)
                clear hd
                clear HSC
                clear c15 d15
                cases bC with
                | false =>
                  have HN : Hid (sG = false) := Lib.hid (by rw [HS.out]; rfl)
                  go_wp2
                  go_ret
                  exact ⟨ret_bool HN.out.symm, hb⟩
                | true =>
                  have c16 := VA.out.cell (i := 16) (v := .slice p.clocks.a x.clocks.length p.clocks.c) (by rw [HGX.out]; rfl)
                  have d16 := VB.out.cell (i := 16) (v := .slice q.clocks.a y.clocks.length q.clocks.c) (by rw [HGY.out]; rfl)
                  go_wp2_with fail
                  refine (HCL.out _ HA.out HC.out).mono ?_
                  rintro e w11 ⟨rfl, hd0⟩
                  have hd := hd0.bel
                  clear hd0
                  replace HA := Lib.hid (Gam.At.kept HA.out hd)
                  replace HC := Lib.hid (Gam.At.kept HC.out hd)
                  replace hb := hb.trans (hd.mono hb.size)
                  replace VA := Lib.hid (VA.out.kept hd)
                  replace VB := Lib.hid (VB.out.kept hd)
                  clear hd
                  clear HCL
                  clear c16 d16
                  cases bE with
                  | false =>
                    have HN : Hid (sG = false) := Lib.hid (by rw [HS.out]; rfl)
                    go_wp2
                    go_ret
                    exact ⟨ret_bool HN.out.symm, hb⟩
                  | true =>
                    have c10 := VA.out.cell (i := 10) (v := .int .i64 x.board.size) (by rw [HGX.out]; rfl)
                    have d10 := VB.out.cell (i := 10) (v := .int .i64 y.board.size) (by rw [HGY.out]; rfl)
                    have c11 := VA.out.cell (i := 11) (v := .string x.board.premium) (by rw [HGX.out]; rfl)
                    have d11 := VB.out.cell (i := 11) (v := .string y.board.premium) (by rw [HGY.out]; rfl)
                    have c12 := VA.out.cell (i := 12) (v := .string x.board.cells) (by rw [HGX.out]; rfl)
                    have d12 := VB.out.cell (i := 12) (v := .string y.board.cells) (by rw [HGY.out]; rfl)
                    have c13 := VA.out.cell (i := 13) (v := .string x.bag) (by rw [HGX.out]; rfl)
                    have d13 := VB.out.cell (i := 13) (v := .string y.bag) (by rw [HGY.out]; rfl)
                    have c17 := VA.out.cell (i := 17) (v := .int .i64 x.player) (by rw [HGX.out]; rfl)
                    have d17 := VB.out.cell (i := 17) (v := .int .i64 y.player) (by rw [HGY.out]; rfl)
                    have c18 := VA.out.cell (i := 18) (v := .int .i64 x.zeros) (by rw [HGX.out]; rfl)
                    have d18 := VB.out.cell (i := 18) (v := .int .i64 y.zeros) (by rw [HGY.out]; rfl)
                    have c19 := VA.out.cell (i := 19) (v := .int .i64 x.last.kind) (by rw [HGX.out]; rfl)
                    have d19 := VB.out.cell (i := 19) (v := .int .i64 y.last.kind) (by rw [HGY.out]; rfl)
                    have c20 := VA.out.cell (i := 20) (v := .int .i64 x.last.player) (by rw [HGX.out]; rfl)
                    have d20 := VB.out.cell (i := 20) (v := .int .i64 y.last.player) (by rw [HGY.out]; rfl)
                    have c21 := VA.out.cell (i := 21) (v := .int .i64 x.last.play.row) (by rw [HGX.out]; rfl)
                    have d21 := VB.out.cell (i := 21) (v := .int .i64 y.last.play.row) (by rw [HGY.out]; rfl)
                    have c22 := VA.out.cell (i := 22) (v := .int .i64 x.last.play.col) (by rw [HGX.out]; rfl)
                    have d22 := VB.out.cell (i := 22) (v := .int .i64 y.last.play.col) (by rw [HGY.out]; rfl)
                    have c23 := VA.out.cell (i := 23) (v := .bool x.last.play.down) (by rw [HGX.out]; rfl)
                    have d23 := VB.out.cell (i := 23) (v := .bool y.last.play.down) (by rw [HGY.out]; rfl)
                    have c24 := VA.out.cell (i := 24) (v := .string x.last.play.word) (by rw [HGX.out]; rfl)
                    have d24 := VB.out.cell (i := 24) (v := .string y.last.play.word) (by rw [HGY.out]; rfl)
                    have c25 := VA.out.cell (i := 25) (v := .string x.last.before) (by rw [HGX.out]; rfl)
                    have d25 := VB.out.cell (i := 25) (v := .string y.last.before) (by rw [HGY.out]; rfl)
                    have c26 := VA.out.cell (i := 26) (v := .string x.last.drawn) (by rw [HGX.out]; rfl)
                    have d26 := VB.out.cell (i := 26) (v := .string y.last.drawn) (by rw [HGY.out]; rfl)
                    have c27 := VA.out.cell (i := 27) (v := .int .i64 x.last.score) (by rw [HGX.out]; rfl)
                    have d27 := VB.out.cell (i := 27) (v := .int .i64 y.last.score) (by rw [HGY.out]; rfl)
                    have c28 := VA.out.cell (i := 28) (v := .int .i64 x.last.zeros) (by rw [HGX.out]; rfl)
                    have d28 := VB.out.cell (i := 28) (v := .int .i64 y.last.zeros) (by rw [HGY.out]; rfl)
                    have c29 := VA.out.cell (i := 29) (v := .bool x.over) (by rw [HGX.out]; rfl)
                    have d29 := VB.out.cell (i := 29) (v := .bool y.over) (by rw [HGY.out]; rfl)
                    have hb2 := HB2.out
                    have hle := HLE.out
                    clear HB2 HLE
                    cases bD with
                    | false =>
                      have HN : Hid (sG = false) := Lib.hid (by rw [HS.out]; rfl)
                      go_wp2
                      go_ret
                      exact ⟨ret_bool HN.out.symm, hb⟩
                    | true =>
                      cases bG with
                      | false =>
                        have HN : Hid (sG = false) := Lib.hid (by rw [HS.out]; rfl)
                        go_wp2
                        go_ret
                        exact ⟨ret_bool HN.out.symm, hb⟩
                      | true =>
                        cases bP with
                        | false =>
                          have HN : Hid (sG = false) := Lib.hid (by rw [HS.out]; rfl)
                          go_wp2
                          go_ret
                          exact ⟨ret_bool HN.out.symm, hb⟩
                        | true =>
                          cases bZ with
                          | false =>
                            have HN : Hid (sG = false) := Lib.hid (by rw [HS.out]; rfl)
                            go_wp2
                            go_ret
                            exact ⟨ret_bool HN.out.symm, hb⟩
                          | true =>
                            cases bL with
                            | false =>
                              have HN : Hid (sG = false) := Lib.hid (by rw [HS.out]; rfl)
                              go_wp2
                              go_ret
                              exact ⟨ret_bool HN.out.symm, hb⟩
                            | true =>
                              have HN : Hid (sG = (x.over == y.over)) := Lib.hid (by rw [HS.out]; rfl)
                              go_wp2
                              go_ret
                              exact ⟨ret_bool HN.out.symm, hb⟩
end Go.Proofs.Ytalnbgcdhcnjfaa
