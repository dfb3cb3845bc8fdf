/- The statement FnExactEndFor: the endgame of a game. Go's tables of unicode and unicode/utf8 hold what is laid (CEnv), internal/bytealg's MaxLen a number (EnvL). -/
import Derived.Test.YtofcampipllegaaGreatDoorGfB
import Derived.Test.YtofcampipllegaaGreatDoorCEnv
namespace Go.Proofs.YtofcampipllegaaGreatDoor
open Go.ChangeShapes Go.WideShapes Go.ChangeAt Go.RowKit Go.Sort

theorem size_lgame (x : Gam) (p : GaA) : (Tryz.prog.info? 52).map (·.size) = some (gcells x p).length := by kernel_rfl
theorem gcells_one (x : Gam) (p : GaA) : ∀ v ∈ gcells x p, v.oneCell' = true := by
 intro v hv
 simp only [gcells, List.mem_cons, List.not_mem_nil, or_false] at hv
 rcases hv with rfl | rfl | rfl | rfl | rfl | rfl | rfl | rfl | rfl | rfl | rfl | rfl | rfl | rfl | rfl | rfl | rfl | rfl | rfl | rfl | rfl | rfl | rfl | rfl | rfl | rfl | rfl | rfl | rfl | rfl <;> rfl
/-- the cells of a game that nobody has filled -/
def gzero : List Value := szero ++ [.int .i64 0, .string ⟨#[]⟩, .string ⟨#[]⟩, .string ⟨#[]⟩, .slice none 0 0, .slice none 0 0, .slice none 0 0, .int .i64 0, .int .i64 0, .int .i64 0, .int .i64 0, .int .i64 0, .int .i64 0, .bool false, .string ⟨#[]⟩, .string ⟨#[]⟩, .string ⟨#[]⟩, .int .i64 0, .int .i64 0, .bool false]
set_option maxRecDepth 100000 in
set_option maxHeartbeats 2000000 in
theorem eqEnd_any (E : Edg) (w : World) :
  Calls Tryz.prog 26 #[.agg (ecells E).toArray, .agg (ecells E).toArray] w fun e w' => e = .returned (.bool true) ∧ Below w.heap.size w w' := by
 have HB := Lib.hid (eqBoard_any E.board)
 have k1 : (E.mine.toList == E.mine.toList) = true := by simp
 have k2 : (E.theirs.toList == E.theirs.toList) = true := by simp
 obtain ⟨b, m, t, d⟩ := E
 have hb : Below w.heap.size w ((w.alloc (.cells #[.int .i64 b.size, .string b.premium, .string b.cells, .string m, .string t, .bool d] 55)).alloc (.cells #[.int .i64 b.size, .string b.premium, .string b.cells, .string m, .string t, .bool d] 55)) := ((Below.refl _ _).alloc (Nat.le_refl _) _).alloc (by simp) _
 have V1 := Lib.hid ((VarAt.new w 55 [.int .i64 b.size, .string b.premium, .string b.cells, .string m, .string t, .bool d]).kept ((Below.refl _ _).alloc (Nat.le_refl _) (.cells #[.int .i64 b.size, .string b.premium, .string b.cells, .string m, .string t, .bool d] 55)))
 have V2 := VarAt.new (w.alloc (.cells #[.int .i64 b.size, .string b.premium, .string b.cells, .string m, .string t, .bool d] 55)) 55 [.int .i64 b.size, .string b.premium, .string b.cells, .string m, .string t, .bool d]
 simp only [World.size_alloc] at V2
 replace V2 := Lib.hid V2
 show Calls _ _ #[.agg #[.int .i64 b.size, .string b.premium, .string b.cells, .string m, .string t, .bool d], .agg #[.int .i64 b.size, .string b.premium, .string b.cells, .string m, .string t, .bool d]] _ _
 go_enter Tryz.func26, Tryz.ntmps26
 go_upto_region 1 with fail
 generalize (w.alloc (.cells #[.int .i64 b.size, .string b.premium, .string b.cells, .string m, .string t, .bool d] 55)).alloc (.cells #[.int .i64 b.size, .string b.premium, .string b.cells, .string m, .string t, .bool d] 55) = w1 at *
 have a0 := V1.out.cell (i := 0) rfl
 have a1 := V1.out.cell (i := 1) rfl
 have a2 := V1.out.cell (i := 2) rfl
 have b0 := V2.out.cell (i := 0) rfl
 have b1 := V2.out.cell (i := 1) rfl
 have b2 := V2.out.cell (i := 2) rfl
 go_wp2_with fail
 refine (HB.out _).mono ?_
 rintro e w2 ⟨rfl, hd⟩
 clear a0 a1 a2 b0 b1 b2
 replace hb := hb.trans (hd.mono hb.size)
 replace V1 := Lib.hid (V1.out.kept hd)
 replace V2 := Lib.hid (V2.out.kept hd)
 clear hd
 have a3 := V1.out.cell (i := 3) rfl
 have a4 := V1.out.cell (i := 4) rfl
 have a5 := V1.out.cell (i := 5) rfl
 have b3 := V2.out.cell (i := 3) rfl
 have b4 := V2.out.cell (i := 4) rfl
 have b5 := V2.out.cell (i := 5) rfl
 clear V1 V2 HB
 go_wp2
 go_ret
 exact ⟨rfl, hb⟩
set_option maxRecDepth 100000 in
set_option maxHeartbeats 16000000 in
theorem lawEndFor_any (x : Gam) (p : GaA) (w : World) (ha : x.At p w) (hf : x.fit) (hE : CEnv w) (hEL : EnvL w) :
  Calls Tryz.prog 4 #[.agg (gcells x p).toArray] w fun e w' => e = .returned (.bool true) ∧ Below w.heap.size w w' := by
 have hb : Below w.heap.size w (w.alloc (.cells (gcells x p).toArray 52)) := (Below.refl _ _).alloc (Nat.le_refl _) _
 have VL := Lib.hid (VarAt.new w 52 (gcells x p))
 have HA : Hid (x.At p (w.alloc (.cells (gcells x p).toArray 52))) := Lib.hid (Gam.At.kept ha hb)
 have HE0 := Lib.hid hE
 have HEL0 := Lib.hid hEL
 have HSL : Hid (∀ q, (Tryz.prog.info? 52).map (·.size) = some (gcells x q).length) := Lib.hid (size_lgame x)
 have HSZ : Hid (∀ q, (Tryz.prog.info? 65).map (·.size) = some (gcells x q).length) := Lib.hid (size_game x)
 have HGL : Hid (∀ q, (gcells x q).length = 30) := Lib.hid (fun _ => rfl)
 have HG1 : Hid (∀ q, ∀ v ∈ gcells x q, v.oneCell' = true) := Lib.hid (gcells_one x)
 have HSG : Hid (∀ W, x.At p W → Calls Tryz.prog 22 #[.agg (gcells x p).toArray, .int .i64 1048576] W (SzPost W 1048576 x.sz)) := Lib.hid (fun W h => szGame_any x p 1048576 W h (by omega) (by omega) hf)
 have HTO : Hid (x.small → ∀ W, x.At p W → Calls Tryz.prog 24 #[.agg (gcells x p).toArray] W fun e w' => ∃ q : GaA, e = .returned (.agg (gcells x q).toArray) ∧ x.Own q W.heap.size w' ∧ Below W.heap.size W w') := Lib.hid (fun hs W h => toGame_any x p W h hs)
 have HEQ : Hid (∀ q r W, x.At q W → x.At r W → Calls Tryz.prog 27 #[.agg (gcells x q).toArray, .agg (gcells x r).toArray] W fun e w' => e = .returned (.bool true) ∧ Below W.heap.size W w') := Lib.hid (fun q r W h h2 => eqGame_any x q r W h h2 hf)
 have HSP : Hid (∀ q W, x.At q W → Calls Tryz.prog 23 #[.agg (gcells x q).toArray] W fun e w' => e = .returned (.tuple #[.agg (ecells x.endFor.1).toArray, .int .i64 x.endFor.2]) ∧ Below W.heap.size W w') := Lib.hid (fun q W h => specEndFor_any x q W h hf)
 have HIM : Hid (x.setup.tiles.letters.size ≤ 1048576 → x.last.play.word.size ≤ 1048576 → ∀ q W, x.At q W → CEnv W → EnvL W → Calls Tryz.prog 25 #[.agg (gcells x q).toArray] W fun e w' => e = .returned (.tuple #[.agg (ecells x.endFor.1).toArray, .int .i64 x.endFor.2]) ∧ Below W.heap.size W w') := Lib.hid (fun h1 h2 q W h h3 h4 => implEndFor_any x q W h hf h1 h2 h3 h4)
 clear ha hE hEL hf
 have HRQ : Hid (∀ W, Calls Tryz.prog 26 #[.agg (ecells x.endFor.1).toArray, .agg (ecells x.endFor.1).toArray] W fun e w' => e = .returned (.bool true) ∧ Below W.heap.size W w') := Lib.hid (fun W => eqEnd_any _ W)
 have HRL : Hid ((ecells x.endFor.1).length = 6) := Lib.hid rfl
 have HSR : Hid ((Tryz.prog.info? 55).map (·.size) = some (ecells x.endFor.1).length) := Lib.hid (size_end _)
 have HR1 : Hid (∀ v ∈ ecells x.endFor.1, v.oneCell' = true) := Lib.hid (ecells_one _)
 generalize x.endFor.2 = r2 at *
 generalize ecells x.endFor.1 = ec at *
 generalize gcells x = gc at *
 go_enter Tryz.func4, Tryz.ntmps4
 go_upto_region 2 with fail
 generalize w.alloc (.cells (gc p).toArray 52) = w1 at *
 refine wp_region_list ?_
 refine wpList_load_mid rfl 52 _ rfl w.heap.size 0 rfl (gc p) _ VL.out.range Tryz.underlying52 rfl (HSL.out p) ?_
 go_wp2_with fail
 refine (HSG.out _ HA.out).mono ?_
 rintro e w2 ⟨l1, rfl, z1, hd⟩
 replace HA := Lib.hid (Gam.At.kept HA.out hd)
 replace hb := hb.trans (hd.mono hb.size)
 replace VL := Lib.hid (VL.out.kept hd)
 clear hd
 rcases z1 with rfl | ⟨y1, z1⟩
 ·go_wp2
  go_ret
  exact ⟨rfl, hb⟩
 have n1 : ¬ l1 < 0 := by omega
 have hsm : x.small := by
  unfold Gam.sz Stp.sz Tls.sz at z1
  refine ⟨⟨⟨?_, ?_⟩, ?_⟩, ?_, ?_, ?_⟩ <;> omega
 have hlz : x.setup.tiles.letters.size ≤ 1048576 := by
  unfold Gam.sz Stp.sz Tls.sz at z1
  omega
 have hwz : x.last.play.word.size ≤ 1048576 := by
  unfold Gam.sz Lst.sz Ply.sz at z1
  omega
 replace HTO := Lib.hid (HTO.out hsm)
 replace HIM := Lib.hid (HIM.out hlz hwz)
 clear z1 y1 hsm hlz hwz HSG
 go_upto_region 5 with fail
 refine wp_region_list ?_
 refine wpList_load_mid rfl 52 _ rfl w.heap.size 0 rfl (gc p) _ VL.out.range Tryz.underlying52 rfl (HSL.out p) ?_
 go_wp2_with fail
 refine (HTO.out _ HA.out).mono ?_
 rintro e w3 ⟨q1, rfl, ho, hd⟩
 have S9 := Lib.hid (Gam.Own.at ho)
 clear ho
 replace HA := Lib.hid (Gam.At.kept HA.out hd)
 replace hb := hb.trans (hd.mono hb.size)
 replace VL := Lib.hid (VL.out.kept hd)
 clear hd
 go_wp2_with fail
 refine (HSP.out _ _ S9.out).mono ?_
 rintro e w4 ⟨rfl, hd⟩
 replace HA := Lib.hid (Gam.At.kept HA.out hd)
 replace hb := hb.trans (hd.mono hb.size)
 replace VL := Lib.hid (VL.out.kept hd)
 clear hd
 clear S9 HSP
 have V6 := VarAt.new w4 55 (ecells Edg.zero)
 obtain ⟨o6, k6⟩ := V6.put ec (by rw [HRL.out]; rfl)
 have tR := V6.there (n := ec.length) (by rw [HRL.out]; rfl)
 have hd : Below w4.heap.size w4 ((w4.alloc (.cells (ecells Edg.zero).toArray 55)).setCells w4.heap.size 0 ec) := ((Below.refl _ _).alloc (Nat.le_refl _) _).grown k6 (by simp) (fun q h => by cases h; exact Nat.le_refl _)
 have VW := Lib.hid o6
 clear V6 o6 k6
 go_upto_region 6 with (refine wpList_store_mid rfl 55 _ _ rfl w4.heap.size 0 ec.toArray rfl rfl tR HSR.out (all_oneCell_toArray HR1.out) ?_)
 clear tR
 change Code.wp _ _ _ _ ((w4.alloc (.cells (ecells Edg.zero).toArray 55)).setCells w4.heap.size 0 ec)
 replace HA := Lib.hid (Gam.At.kept HA.out hd)
 replace hb := hb.trans (hd.mono hb.size)
 replace VL := Lib.hid (VL.out.kept hd)
 clear hd
 generalize (w4.alloc (.cells (ecells Edg.zero).toArray 55)).setCells w4.heap.size 0 ec = w4b at *
 generalize w4.heap.size = x4 at *
 refine wp_region_list ?_
 refine wpList_load_mid rfl 52 _ rfl w.heap.size 0 rfl (gc p) _ VL.out.range Tryz.underlying52 rfl (HSL.out p) ?_
 go_wp2_with fail
 refine (HTO.out _ HA.out).mono ?_
 rintro e w5 ⟨q2, rfl, ho, hd⟩
 have S9 := Lib.hid (Gam.Own.at ho)
 clear ho
 replace HA := Lib.hid (Gam.At.kept HA.out hd)
 replace hb := hb.trans (hd.mono hb.size)
 replace VL := Lib.hid (VL.out.kept hd)
 replace VW := Lib.hid (VW.out.kept hd)
 clear hd
 have V6 := VarAt.new w5 65 gzero
 obtain ⟨o6, k6⟩ := V6.put (gc q2) (by rw [HGL.out]; rfl)
 have tR := V6.there (n := (gc q2).length) (by rw [HGL.out]; rfl)
 have hd : Below w5.heap.size w5 ((w5.alloc (.cells gzero.toArray 65)).setCells w5.heap.size 0 (gc q2)) := ((Below.refl _ _).alloc (Nat.le_refl _) _).grown k6 (by simp) (fun q h => by cases h; exact Nat.le_refl _)
 have VX := Lib.hid o6
 clear V6 o6 k6
 go_upto_region 7 with (refine wpList_store_mid rfl 65 _ _ rfl w5.heap.size 0 (gc q2).toArray rfl rfl tR (HSZ.out q2) (all_oneCell_toArray (HG1.out q2)) ?_)
 clear tR
 change Code.wp _ _ _ _ ((w5.alloc (.cells gzero.toArray 65)).setCells w5.heap.size 0 (gc q2))
 generalize (w5.alloc (.cells gzero.toArray 65)).setCells w5.heap.size 0 (gc q2) = w6 at *
 replace S9 := Lib.hid (Gam.At.kept S9.out hd)
 replace HA := Lib.hid (Gam.At.kept HA.out hd)
 replace hb := hb.trans (hd.mono hb.size)
 replace VL := Lib.hid (VL.out.kept hd)
 replace VW := Lib.hid (VW.out.kept hd)
 clear hd
 generalize w5.heap.size = x1 at *
 refine wp_region_list ?_
 refine wpList_load_mid rfl 65 _ rfl x1 0 rfl (gc q2) _ VX.out.range Tryz.underlying65 rfl (HSZ.out q2) ?_
 go_wp2_with fail
 refine (HIM.out _ _ S9.out (HE0.out.kept hb) (HEL0.out.kept hb)).mono ?_
 rintro e w7 ⟨rfl, hd⟩
 replace S9 := Lib.hid (Gam.At.kept S9.out hd)
 replace HA := Lib.hid (Gam.At.kept HA.out hd)
 replace hb := hb.trans (hd.mono hb.size)
 replace VL := Lib.hid (VL.out.kept hd)
 replace VX := Lib.hid (VX.out.kept hd)
 replace VW := Lib.hid (VW.out.kept hd)
 clear hd
 clear HIM HE0 HEL0
 have V6 := VarAt.new w7 55 (ecells Edg.zero)
 obtain ⟨o6, k6⟩ := V6.put ec (by rw [HRL.out]; rfl)
 have tR := V6.there (n := ec.length) (by rw [HRL.out]; rfl)
 have hd : Below w7.heap.size w7 ((w7.alloc (.cells (ecells Edg.zero).toArray 55)).setCells w7.heap.size 0 ec) := ((Below.refl _ _).alloc (Nat.le_refl _) _).grown k6 (by simp) (fun q h => by cases h; exact Nat.le_refl _)
 have VG := Lib.hid o6
 clear V6 o6 k6
 go_upto_region 8 with (refine wpList_store_mid rfl 55 _ _ rfl w7.heap.size 0 ec.toArray rfl rfl tR HSR.out (all_oneCell_toArray HR1.out) ?_)
 clear tR
 change Code.wp _ _ _ _ ((w7.alloc (.cells (ecells Edg.zero).toArray 55)).setCells w7.heap.size 0 ec)
 replace S9 := Lib.hid (Gam.At.kept S9.out hd)
 replace HA := Lib.hid (Gam.At.kept HA.out hd)
 replace hb := hb.trans (hd.mono hb.size)
 replace VL := Lib.hid (VL.out.kept hd)
 replace VX := Lib.hid (VX.out.kept hd)
 replace VW := Lib.hid (VW.out.kept hd)
 clear hd
 generalize (w7.alloc (.cells (ecells Edg.zero).toArray 55)).setCells w7.heap.size 0 ec = w7b at *
 generalize w7.heap.size = x7 at *
 have k2 : (r2 != r2) = false := by simp
 refine wp_region_list ?_
 refine wpList_load_mid rfl 55 _ rfl x7 0 rfl ec _ VG.out.range Tryz.underlying55 rfl HSR.out ?_
 refine wpList_load_mid rfl 55 _ rfl x4 0 rfl ec _ VW.out.range Tryz.underlying55 rfl HSR.out ?_
 go_wp2_with fail
 refine (HRQ.out _).mono ?_
 rintro e w7c ⟨rfl, hd⟩
 replace S9 := Lib.hid (Gam.At.kept S9.out hd)
 replace HA := Lib.hid (Gam.At.kept HA.out hd)
 replace hb := hb.trans (hd.mono hb.size)
 replace VL := Lib.hid (VL.out.kept hd)
 replace VX := Lib.hid (VX.out.kept hd)
 clear hd
 clear VW VG
 generalize w7 = w7x at *
 generalize w7c = w7 at *
 go_upto_region 10 with fail
 have hd : Below w7.heap.size w7 w7.drew := (Below.refl _ _).drew
 replace S9 := Lib.hid (Gam.At.kept S9.out hd)
 replace HA := Lib.hid (Gam.At.kept HA.out hd)
 replace hb := hb.trans (hd.mono hb.size)
 replace VL := Lib.hid (VL.out.kept hd)
 replace VX := Lib.hid (VX.out.kept hd)
 clear hd
 refine wp_region_held_drew (S := fun w' => w'.rangeAt x1 0 (gc q2) ∧ w'.rangeAt w.heap.size 0 (gc p)) (by kernel_rfl) ⟨VX.out.range, VL.out.range⟩ (fun hHeld => ?_)
 refine wpAnyH_take (i := 0) (oi := _) (v := _) rfl (by kernel_rfl) (by kernel_rfl) (by kernel_rfl) (fun _ _ _ h => h) (yieldsIf_load_mid (by rfl) 65 _ rfl x1 0 rfl (gc q2) _ (fun _ h => h.1) Tryz.underlying65 rfl (HSZ.out q2)) (by assumption) ?_
 simp only [Act.put, List.setIfInBounds_toArray]
 refine wpAnyH_take (i := 1) (oi := _) (v := _) rfl (by kernel_rfl) (by kernel_rfl) (by kernel_rfl) (fun _ _ _ h => h) (yieldsIf_load_mid (by rfl) 52 _ rfl w.heap.size 0 rfl (gc p) _ (fun _ h => h.2) Tryz.underlying52 rfl (HSL.out p)) (by assumption) ?_
 simp only [Act.put]
 refine wpAnyH_ready (rs := [2]) (by kernel_rfl) (by simp) ?_
 refine AllReadyH.cons (o := _) rfl (fun K hK => ?_) AllReadyH.nil
 go_simp
 refine (HTO.out _ HA.out).mono ?_
 rintro e w8 ⟨q3, rfl, hoq, hd⟩
 have S3 := Lib.hid (Gam.Own.at hoq)
 clear hoq
 replace S9 := Lib.hid (Gam.At.kept S9.out hd)
 replace hb := hb.trans (hd.mono hb.size)
 replace VL := Lib.hid (VL.out.kept hd)
 replace VX := Lib.hid (VX.out.kept hd)
 clear hd
 clear HA HTO
 go_wp2_with fail
 refine hK.out _ _ ⟨VX.out.range, VL.out.range⟩ (fun hHeld2 => ?_)
 clear hK K hHeld
 refine wpAnyH_ready (rs := [3]) (by kernel_rfl) (by simp) ?_
 refine AllReadyH.cons (o := _) rfl (fun K hK => ?_) AllReadyH.nil
 go_simp
 refine (HEQ.out _ _ _ S9.out S3.out).mono ?_
 rintro e wq ⟨rfl, hd⟩
 replace hb := hb.trans (hd.mono hb.size)
 replace VL := Lib.hid (VL.out.kept hd)
 replace VX := Lib.hid (VX.out.kept hd)
 clear hd
 clear HEQ S9 S3
 go_wp2_with fail
 refine hK.out _ _ ⟨VX.out.range, VL.out.range⟩ (fun hHeld => ?_)
 clear hK K hHeld2
 refine wpAnyH_ready (rs := [4]) (by kernel_rfl) (by simp) ?_
 refine AllReadyH.cons (o := _) rfl (fun K hK => ?_) AllReadyH.nil
 go_simp
 refine hK.out _ _ ⟨VX.out.range, VL.out.range⟩ (fun hHeld2 => ?_)
 clear hK K hHeld
 refine wpAnyH_done (by kernel_rfl) ?_ _
 clear hHeld2
 generalize wq = w9 at *
 clear VL VX
 go_wp2
 go_ret
 exact ⟨rfl, hb⟩
open Go.Joins Go.Deep Go.Lib in
theorem cenvEndFor_of_laid {W : World} (h : laidMetH Tryz.prog Rows.fnExactEndForRow.laid W) : CEnv W := by
 rw [MakeChecks.laidMetH_plain _ _ _ (by kernel_rfl)] at h
 exact cenv_of_met h (List.mem_cons_self) (List.mem_cons_of_mem _ (List.mem_cons_self)) (List.mem_cons_of_mem _ (List.mem_cons_of_mem _ (List.mem_cons_self)))
end Go.Proofs.YtofcampipllegaaGreatDoor
