/- Contracts: the reference's ValidGame; the program's tests of games: whether the tiles are all tiles, whether the last play fits. Go's tables of unicode and unicode/utf8 hold what is laid (CEnv), internal/bytealg's MaxLen a number (EnvL). -/
import Derived.Test.YtofcampipllegaaGreatDoorGmR
import Derived.Test.YtofcampipllegaaGreatDoorGmI
import Derived.Test.YtofcampipllegaaGreatDoorScL
namespace Go.Proofs.YtofcampipllegaaGreatDoor
open Go.ChangeShapes Go.WideShapes Go.ChangeAt Go.RowKit Go.Sort

set_option maxRecDepth 100000 in
set_option maxHeartbeats 8000000 in
theorem tilesFit_any (x : Gam) (p : GaA) (w : World) (ha : x.At p w) (hk : x.board.ok = true) (hs : x.Sided) (hbg : bagOk x.bag.data.toList = true) (hL : EnvL w) :
  Calls Tryz.prog 146 #[.agg (gcells x p).toArray] w fun e w' => e = .returned (.bool x.fits) ∧ Below w.heap.size w w' := by
 have HG := Lib.hid (GAt.new w x p 65 ha)
 have hb : Below w.heap.size w (w.alloc (.cells (gcells x p).toArray 65)) := (Below.refl _ _).alloc (Nat.le_refl _) _
 have HEL := Lib.hid (hL.kept hb)
 have hr0 := hs.rack 0 (by omega)
 have hr1 := hs.rack 1 (by omega)
 have hl0 : (x.rack 0).size ≤ 7 := by have := (rack_pile hr0).2; simpa using this
 have hl1 : (x.rack 1).size ≤ 7 := by have := (rack_pile hr1).2; simpa using this
 obtain ⟨hbt, hbl⟩ := bag_parts hbg
 have hbz : x.bag.size ≤ 120 := by simpa using hbl
 have hlt2 := lets_tiles hk
 have h225 := board_225 hk
 have hlc : (lettersL x.board.cells.data.toList).length ≤ 225 := by
  have := lettersL_len x.board.cells.data.toList
  have h3 : x.board.cells.data.toList.length = x.board.cells.size := by simp
  omega
 have hln : x.lets.length ≤ 225 := by unfold Gam.lets; rw [List.length_map]; exact hlc
 have hsl : (srtL x.lets).length ≤ 225 := by rw [srt_len hlt2]; exact hln
 have hjt : x.joinI.all tileB = true := by
  unfold Gam.joinI
  rw [List.all_append, List.all_append, List.all_append, srt_all, rack_tl hr0, rack_tl hr1, hbt]
  rfl
 have HLO : Hid (∀ W, EnvL W → Calls Tryz.prog 221 #[.agg #[.int .i64 x.board.size, .string x.board.premium, .string x.board.cells]] W fun e w' => e = .returned (.string (mkB (lettersL x.board.cells.data.toList))) ∧ Below W.heap.size W w') := Lib.hid (fun W h => lettersOn_any x.board W h225 h)
 have HTO : Hid (∀ W, Calls Tryz.prog 220 #[.string (mkB (lettersL x.board.cells.data.toList))] W fun e w' => e = .returned (.string (mkB (srtL x.lets))) ∧ Below W.heap.size W w') := Lib.hid (fun W => by
  have h := tilesOf_any (mkB (lettersL x.board.cells.data.toList)) W (by rw [mkB_size]; omega) (by rw [mkB_data]; exact letters_let hk)
  rw [mkB_data] at h
  exact h)
 have hjd : (x.bag ++ x.rack 0 ++ x.rack 1 ++ mkB (srtL x.lets)).data.toList = x.joinI := by
  unfold Gam.joinI
  rw [cat_mk, cat_mk, cat_mk, mkB_data, mkB_data, mkB_data, mkB_data]
 have HSO : Hid (∀ W, Calls Tryz.prog 174 #[.string (x.bag ++ x.rack 0 ++ x.rack 1 ++ mkB (srtL x.lets))] W fun e w' => e = .returned (.string (mkB (srtL x.joinI))) ∧ Below W.heap.size W w') := Lib.hid (fun W => by
  have h := sorted_any (x.bag ++ x.rack 0 ++ x.rack 1 ++ mkB (srtL x.lets)) W (by
   simp only [ByteArray.size_append, mkB_size]
   omega) (by rw [hjd]; exact hjt)
  rw [hjd] at h
  exact h)
 have HAL : Hid (∀ W, GAt W w.heap.size x p → Calls Tryz.prog 222 #[.agg #[.string x.setup.tiles.letters, .slice p.setup.tiles.values.a x.setup.tiles.values.length p.setup.tiles.values.c, .slice p.setup.tiles.counts.a x.setup.tiles.counts.length p.setup.tiles.counts.c, .int .i64 x.setup.tiles.blanks]] W fun e w' => e = .returned (.string (mkB (allL x.setup.tiles))) ∧ Below W.heap.size W w') := Lib.hid (fun W h => allTiles_any x.setup.tiles p.setup.tiles W h.at_.1.1 hs.tiles)
 have HCM : Hid (((mkB (srtL x.joinI)).toList == (mkB (allL x.setup.tiles)).toList) = x.fits) := Lib.hid (by rw [mk_cmp]; rfl)
 have hz1 : x.bag.size + (x.rack 0).size ≤ 9223372036854775807 := by omega
 have hz2 : x.bag.size + (x.rack 0).size + (x.rack 1).size ≤ 9223372036854775807 := by omega
 have hz3 : x.bag.size + (x.rack 0).size + (x.rack 1).size + (mkB (srtL x.lets)).size ≤ 9223372036854775807 := by rw [mkB_size]; omega
 obtain ⟨rb, ro, hra, hrc⟩ := (HG.out.at_.2.1).open (show 0 < x.racks.length by have := hs.racks; omega)
 have rc0 : (w.alloc (.cells (gcells x p).toArray 65)).cell? ⟨rb, ro + 0, none⟩ = some (.string (x.rack 0)) := words_cell hrc (show 0 < x.racks.length by have := hs.racks; omega)
 have rc1 : (w.alloc (.cells (gcells x p).toArray 65)).cell? ⟨rb, ro + 1, none⟩ = some (.string (x.rack 1)) := words_cell hrc (show 1 < x.racks.length by have := hs.racks; omega)
 rw [Nat.add_zero] at rc0
 have c14 := HG.out.cell (i := 14) rfl
 rw [hra, hs.racks] at c14
 clear ha hk hs hbg hL hr0 hr1 hbt hbl hlt2 h225 hlc hln hsl hjt hjd hrc hra hl0 hl1 hbz
 generalize x.rack 0 = r0 at *
 generalize x.rack 1 = r1 at *
 generalize mkB (srtL x.lets) = T at *
 generalize mkB (lettersL x.board.cells.data.toList) = U at *
 generalize mkB (srtL x.joinI) = S1 at *
 generalize mkB (allL x.setup.tiles) = S2 at *
 generalize x.fits = fv at *
 have hcm := HCM.out
 clear HCM
 obtain ⟨cs, hcs⟩ : ∃ cs, cs = gcells x p := ⟨_, rfl⟩
 rw [← hcs]
 rw [← hcs] at HG hb HEL rc0 rc1 c14
 clear hcs
 go_enter Tryz.func146, Tryz.ntmps146
 go_upto_region 1 with fail
 generalize w.alloc (.cells cs.toArray 65) = w1 at *
 have b0 := cell_regrown rc0
 have b1 := cell_regrown rc1
 have b14 := cell_regrown c14
 have b13 := cell_regrown (HG.out.cell (i := 13) rfl)
 have b10 := cell_regrown (HG.out.cell (i := 10) rfl)
 have b11 := cell_regrown (HG.out.cell (i := 11) rfl)
 have b12 := cell_regrown (HG.out.cell (i := 12) rfl)
 clear rc0 rc1 c14
 refine wp_region_quiet_below (by kernel_rfl) (by kernel_rfl) ?_
 repeat (go_big_quiet_step ((first | (go_at_call 221; exact Calls.regrown_of (HLO.out _ (HEL.out.kept (below_regrown _ _ _)))) | (go_at_call 220; exact Calls.regrown_of (HTO.out _)))))
 refine wpQuiet_nil ?_
 intro wx hw'
 obtain ⟨⟨dq, oq⟩, hw''⟩ := hw'
 have hd := below_regrown w1 dq oq
 rw [← hw''] at hd
 clear hw'' b0 b1 b13 b14 b10 b11 b12
 replace hb := hb.trans (hd.mono hb.size)
 replace HG := Lib.hid (HG.out.kept hd)
 clear hd
 go_upto_region 2 with fail
 have b0 := cell_regrown (HG.out.cell (i := 0) rfl)
 have b1 := cell_regrown (HG.out.cell (i := 1) rfl)
 have b2 := cell_regrown (HG.out.cell (i := 2) rfl)
 have b3 := cell_regrown (HG.out.cell (i := 3) rfl)
 refine wp_region_quiet_below (by kernel_rfl) (by kernel_rfl) ?_
 repeat (go_big_quiet_step ((first | (go_at_call 174; exact Calls.regrown_of (HSO.out _)) | (go_at_call 222; exact Calls.regrown_of (HAL.out _ (HG.out.kept (below_regrown _ _ _)))))))
 refine wpQuiet_nil ?_
 intro wy hw'
 obtain ⟨⟨dq2, oq2⟩, hw''⟩ := hw'
 have hd := below_regrown wx dq2 oq2
 rw [← hw''] at hd
 clear hw'' b0 b1 b2 b3
 replace hb := hb.trans (hd.mono hb.size)
 clear hd
 go_wp2
 go_ret
 exact ⟨rfl, hb⟩
end Go.Proofs.YtofcampipllegaaGreatDoor
