/- The statement FnExactSameDesk: whether two desks are the same. No condition but that a length fits an int. -/
import Derived.Test.YtalnbgcdhcnjfaaSamD
import Derived.Test.YtalnbgcdhcnjfaaDkS
namespace Go.Proofs.Ytalnbgcdhcnjfaa
open Go.ChangeShapes Go.WideShapes Go.ChangeAt Go.RowKit Go.Sort

set_option maxRecDepth 100000 in
set_option maxHeartbeats 16000000 in
theorem lawSameDesk_any (x y : Gam) (p q : GaA) (w : World) (ha : x.At p w) (hc : y.At q w) (hf : x.fit) (hg : y.fit) :
    Calls Try.prog 3 #[.agg (gcells x p).toArray, .agg (gcells y q).toArray] w fun e w' => e = .returned (.bool true) ∧ Below w.heap.size w w' := by
  obtain ⟨w2, hw2⟩ : ∃ w2, w2 = (w.alloc (.cells (gcells x p).toArray 39)).alloc (.cells (gcells y q).toArray 39) := ⟨_, rfl⟩
  have hb : Below w.heap.size w w2 := by rw [hw2]; exact ((Below.refl _ _).alloc (Nat.le_refl _) _).alloc (by simp) _
  have VA : Hid (VarAt w2 w.heap.size 39 (gcells x p)) := by
    rw [hw2]
    exact Lib.hid ((VarAt.new w 39 (gcells x p)).kept ((Below.refl _ _).alloc (Nat.le_refl _) _))
  have VB : Hid (VarAt w2 (w.heap.size + 1) 39 (gcells y q)) := by
    rw [hw2]
    have := VarAt.new (w.alloc (.cells (gcells x p).toArray 39)) 39 (gcells y q)
    simp only [World.size_alloc] at this
    exact Lib.hid this
  have HW2 := Lib.hid hw2
  have HSL : Hid (∀ k, (Try.prog.info? 39).map (·.size) = some (gcells x k).length) := Lib.hid (size_ldesk x)
  have HZL : Hid (∀ k, (Try.prog.info? 53).map (·.size) = some (gcells x k).length) := Lib.hid (size_desk x)
  have HLL : Hid (∀ k, (gcells x k).length = 30) := Lib.hid (fun _ => rfl)
  have HOL : Hid (∀ k, ∀ v ∈ gcells x k, v.oneCell' = true) := Lib.hid (gcells_one x)
  have HGL : Hid (∀ left W, 0 ≤ left → left ≤ 1048576 → x.At p W → Calls Try.prog 4 #[.agg (gcells x p).toArray, .int .i64 left] W (SzPost W left x.sz)) := Lib.hid (fun left W h1 h2 h => szDesk_any x p left W h h1 h2 hf)
  have HTL : Hid (x.small → ∀ W, x.At p W → Calls Try.prog 6 #[.agg (gcells x p).toArray] W fun e w' => ∃ k : GaA, e = .returned (.agg (gcells x k).toArray) ∧ x.Own k W.heap.size w' ∧ Below W.heap.size W w') := Lib.hid (fun hs W h => toDesk_any x p W h hs)
  have HEL : Hid (∀ k l W, x.At k W → x.At l W → Calls Try.prog 8 #[.agg (gcells x k).toArray, .agg (gcells x l).toArray] W fun e w' => e = .returned (.bool true) ∧ Below W.heap.size W w') := Lib.hid (fun k l W h h2 => eqDesk_any x k l W h h2 hf)
  have HSM : Hid (∀ k, (Try.prog.info? 39).map (·.size) = some (gcells y k).length) := Lib.hid (size_ldesk y)
  have HZM : Hid (∀ k, (Try.prog.info? 53).map (·.size) = some (gcells y k).length) := Lib.hid (size_desk y)
  have HLM : Hid (∀ k, (gcells y k).length = 30) := Lib.hid (fun _ => rfl)
  have HOM : Hid (∀ k, ∀ v ∈ gcells y k, v.oneCell' = true) := Lib.hid (gcells_one y)
  have HGM : Hid (∀ left W, 0 ≤ left → left ≤ 1048576 → y.At q W → Calls Try.prog 4 #[.agg (gcells y q).toArray, .int .i64 left] W (SzPost W left y.sz)) := Lib.hid (fun left W h1 h2 h => szDesk_any y q left W h h1 h2 hg)
  have HTM : Hid (y.small → ∀ W, y.At q W → Calls Try.prog 6 #[.agg (gcells y q).toArray] W fun e w' => ∃ k : GaA, e = .returned (.agg (gcells y k).toArray) ∧ y.Own k W.heap.size w' ∧ Below W.heap.size W w') := Lib.hid (fun hs W h => toDesk_any y q W h hs)
  have HEM : Hid (∀ k l W, y.At k W → y.At l W → Calls Try.prog 8 #[.agg (gcells y k).toArray, .agg (gcells y l).toArray] W fun e w' => e = .returned (.bool true) ∧ Below W.heap.size W w') := Lib.hid (fun k l W h h2 => eqDesk_any y k l W h h2 hg)
  have HSP : Hid (∀ k l W, x.At k W → y.At l W → Calls Try.prog 5 #[.agg (gcells x k).toArray, .agg (gcells y l).toArray] W fun e w' => e = .returned (.bool (sameG x y)) ∧ Below W.heap.size W w') := Lib.hid (fun k l W h h2 => specSameDesk_any x y k l W h h2 hf hg)
  have HIM : Hid (∀ k l W, x.At k W → y.At l W → Calls Try.prog 7 #[.agg (gcells x k).toArray, .agg (gcells y l).toArray] W fun e w' => e = .returned (.bool (sameG x y)) ∧ Below W.heap.size W w') := Lib.hid (fun k l W h h2 => implSameDesk_any x y k l W h h2 hf hg)
  have HA := Lib.hid (Gam.At.kept ha hb)
  have HC := Lib.hid (Gam.At.kept hc hb)
  clear hw2 ha hc hf hg
  generalize sameG x y = sG at *
  generalize gcells x = gx at *
  generalize gcells y = gy at *
  go_enter Try.func3, Try.ntmps3
  go_upto_region 2 with fail
  rw [← HW2.out]
  clear HW2
  refine wp_region_list ?_
  refine wpList_load_mid rfl 39 _ rfl w.heap.size 0 rfl (gx p) _ VA.out.range Try.underlying39 rfl (HSL.out p) ?_
  go_wp2_with fail
  refine (HGL.out _ _ (by omega) (by omega) HA.out).mono ?_
  rintro e w3 ⟨l1, rfl, z1, hd⟩
  replace HA := Lib.hid (Gam.At.kept HA.out hd)
  replace HC := Lib.hid (Gam.At.kept HC.out hd)
  replace hb := hb.trans (hd.mono hb.size)
  replace VA := Lib.hid (VA.out.kept hd)
  replace VB := Lib.hid (VB.out.kept hd)
  clear hd
  rcases z1 with rfl | ⟨y1, z1⟩
  · go_wp2
    go_ret
    exact ⟨rfl, hb⟩
  have n1 : ¬ l1 < 0 := by omega
  go_upto_region 5 with fail
  refine wp_region_list ?_
  refine wpList_load_mid rfl 39 _ rfl (w.heap.size + 1) 0 rfl (gy q) _ VB.out.range Try.underlying39 rfl (HSM.out q) ?_
  go_wp2_with fail
  refine (HGM.out l1 _ y1 (by omega) HC.out).mono ?_
  rintro e w4 ⟨l2, rfl, z2, hd⟩
  replace HA := Lib.hid (Gam.At.kept HA.out hd)
  replace HC := Lib.hid (Gam.At.kept HC.out hd)
  replace hb := hb.trans (hd.mono hb.size)
  replace VA := Lib.hid (VA.out.kept hd)
  replace VB := Lib.hid (VB.out.kept hd)
  clear hd
  rcases z2 with rfl | ⟨y2, z2⟩
  · go_wp2
    go_ret
    exact ⟨rfl, hb⟩
  have n2 : ¬ l2 < 0 := by omega
  have hsm : x.small := by
    unfold Gam.sz Stp.sz Tls.sz at z1
    refine ⟨⟨⟨?_, ?_⟩, ?_⟩, ?_, ?_, ?_⟩ <;> omega
  have hsn : y.small := by
    unfold Gam.sz Stp.sz Tls.sz at z2
    refine ⟨⟨⟨?_, ?_⟩, ?_⟩, ?_, ?_, ?_⟩ <;> omega
  replace HTL := Lib.hid (HTL.out hsm)
  replace HTM := Lib.hid (HTM.out hsn)
  clear z1 z2 y1 y2 n1 hsm hsn HGL HGM
  go_upto_region 8 with fail
  have hd : Below w4.heap.size w4 w4.drew := (Below.refl _ _).drew
  replace HA := Lib.hid (Gam.At.kept HA.out hd)
  replace HC := Lib.hid (Gam.At.kept HC.out hd)
  replace hb := hb.trans (hd.mono hb.size)
  replace VA := Lib.hid (VA.out.kept hd)
  replace VB := Lib.hid (VB.out.kept hd)
  clear hd
  refine wp_region_held_drew (S := fun w' => w'.rangeAt w.heap.size 0 (gx p) ∧ w'.rangeAt (w.heap.size + 1) 0 (gy q)) (by kernel_rfl) ⟨VA.out.range, VB.out.range⟩ (fun hHeld => ?_)
  generalize w4.drew = w5 at *
  refine slotA 0 20 (.agg (gx p).toArray) ?_ (hy := yieldsIf_load_mid (by rfl) 39 _ rfl w.heap.size 0 rfl (gx p) _ (fun _ h => h.1) Try.underlying39 rfl (HSL.out p))
  simp only [S3]
  refine slotA 2 22 (.agg (gy q).toArray) ?_ (hy := yieldsIf_load_mid (by rfl) 39 _ rfl (w.heap.size + 1) 0 rfl (gy q) _ (fun _ h => h.2) Try.underlying39 rfl (HSM.out q))
  simp only [S3]
  refine wpAnyH_ready (rs := [1]) (by kernel_rfl) (by simp) ?_
  refine AllReadyH.cons (o := _) rfl (fun K hK => ?_) AllReadyH.nil
  go_simp
  refine (HTL.out _ HA.out).mono ?_
  rintro e w6 ⟨q1, rfl, ho, hd⟩
  have A1 := Lib.hid (Gam.Own.at ho)
  clear ho
  replace HA := Lib.hid (Gam.At.kept HA.out hd)
  replace HC := Lib.hid (Gam.At.kept HC.out hd)
  replace hb := hb.trans (hd.mono hb.size)
  replace VA := Lib.hid (VA.out.kept hd)
  replace VB := Lib.hid (VB.out.kept hd)
  clear hd
  go_wp2_with fail
  refine hK.out _ _ ⟨VA.out.range, VB.out.range⟩ (fun hHeld2 => ?_)
  clear hK K hHeld
  refine wpAnyH_ready (rs := [3]) (by kernel_rfl) (by simp) ?_
  refine AllReadyH.cons (o := _) rfl (fun K hK => ?_) AllReadyH.nil
  go_simp
  refine (HTM.out _ HC.out).mono ?_
  rintro e w7 ⟨q2, rfl, ho, hd⟩
  have A2 := Lib.hid (Gam.Own.at ho)
  replace A1 := Lib.hid (Gam.At.kept A1.out hd)
  clear ho
  replace HA := Lib.hid (Gam.At.kept HA.out hd)
  replace HC := Lib.hid (Gam.At.kept HC.out hd)
  replace hb := hb.trans (hd.mono hb.size)
  replace VA := Lib.hid (VA.out.kept hd)
  replace VB := Lib.hid (VB.out.kept hd)
  clear hd
  go_wp2_with fail
  refine hK.out _ _ ⟨VA.out.range, VB.out.range⟩ (fun hHeld => ?_)
  clear hK K hHeld2
  refine wpAnyH_ready (rs := [4]) (by kernel_rfl) (by simp) ?_
  refine AllReadyH.cons (o := _) rfl (fun K hK => ?_) AllReadyH.nil
  go_simp
  refine (HSP.out _ _ _ A1.out A2.out).mono ?_
  rintro e w8 ⟨rfl, hd⟩
  replace HA := Lib.hid (Gam.At.kept HA.out hd)
  replace HC := Lib.hid (Gam.At.kept HC.out hd)
  replace hb := hb.trans (hd.mono hb.size)
  replace VA := Lib.hid (VA.out.kept hd)
  replace VB := Lib.hid (VB.out.kept hd)
  clear hd
  clear A1 A2 HSP
  go_wp2_with fail
  refine hK.out _ _ ⟨VA.out.range, VB.out.range⟩ (fun hHeld2 => ?_)
  clear hK K hHeld
  refine wpAnyH_ready (rs := [5]) (by kernel_rfl) (by simp) ?_
  refine AllReadyH.cons (o := _) rfl (fun K hK => ?_) AllReadyH.nil
  go_simp
  refine hK.out _ _ ⟨VA.out.range, VB.out.range⟩ (fun hHeld => ?_)
  clear hK K hHeld2
  refine wpAnyH_done (by kernel_rfl) ?_ _
  clear hHeld
  go_upto_region 9 with fail
  refine wp_region_list ?_
  refine wpList_load_mid rfl 39 _ rfl w.heap.size 0 rfl (gx p) _ VA.out.range Try.underlying39 rfl (HSL.out p) ?_
  go_wp2_with fail
  refine (HTL.out _ HA.out).mono ?_
  rintro e w9 ⟨q3, rfl, ho, hd⟩
  have A3 := Lib.hid (Gam.Own.at ho)
  clear ho
  replace HA := Lib.hid (Gam.At.kept HA.out hd)
  replace HC := Lib.hid (Gam.At.kept HC.out hd)
  replace hb := hb.trans (hd.mono hb.size)
  replace VA := Lib.hid (VA.out.kept hd)
  replace VB := Lib.hid (VB.out.kept hd)
  clear hd
  have V6 := VarAt.new w9 53 gzero
  obtain ⟨o6, k6⟩ := V6.put (gx q3) (by rw [HLL.out]; rfl)
  have tR := V6.there (n := (gx q3).length) (by rw [HLL.out]; rfl)
  have hd : Below w9.heap.size w9 ((w9.alloc (.cells gzero.toArray 53)).setCells w9.heap.size 0 (gx q3)) := ((Below.refl _ _).alloc (Nat.le_refl _) _).grown k6 (by simp) (fun q h => by cases h; exact Nat.le_refl _)
  have VX := Lib.hid o6
  clear V6 o6 k6
  go_upto_region 10 with (refine wpList_store_mid rfl 53 _ _ rfl w9.heap.size 0 (gx q3).toArray rfl rfl tR (HZL.out q3) (all_oneCell_toArray (HOL.out q3)) ?_)
  clear tR
  change Code.wp _ _ _ _ ((w9.alloc (.cells gzero.toArray 53)).setCells w9.heap.size 0 (gx q3))
  generalize (w9.alloc (.cells gzero.toArray 53)).setCells w9.heap.size 0 (gx q3) = w10 at *
  replace A3 := Lib.hid (Gam.At.kept A3.out hd)
  replace HA := Lib.hid (Gam.At.kept HA.out hd)
  replace HC := Lib.hid (Gam.At.kept HC.out hd)
  replace hb := hb.trans (hd.mono hb.size)
  replace VA := Lib.hid (VA.out.kept hd)
  replace VB := Lib.hid (VB.out.kept hd)
  clear hd
  generalize w9.heap.size = x1 at *
  refine wp_region_list ?_
  refine wpList_load_mid rfl 39 _ rfl (w.heap.size + 1) 0 rfl (gy q) _ VB.out.range Try.underlying39 rfl (HSM.out q) ?_
  go_wp2_with fail
  refine (HTM.out _ HC.out).mono ?_
  rintro e w11 ⟨q4, rfl, ho, hd⟩
  have A4 := Lib.hid (Gam.Own.at ho)
  clear ho
  replace A3 := Lib.hid (Gam.At.kept A3.out hd)
  replace HA := Lib.hid (Gam.At.kept HA.out hd)
  replace HC := Lib.hid (Gam.At.kept HC.out hd)
  replace hb := hb.trans (hd.mono hb.size)
  replace VA := Lib.hid (VA.out.kept hd)
  replace VB := Lib.hid (VB.out.kept hd)
  replace VX := Lib.hid (VX.out.kept hd)
  clear hd
  have V6 := VarAt.new w11 53 gzero
  obtain ⟨o6, k6⟩ := V6.put (gy q4) (by rw [HLM.out]; rfl)
  have tR := V6.there (n := (gy q4).length) (by rw [HLM.out]; rfl)
  have hd : Below w11.heap.size w11 ((w11.alloc (.cells gzero.toArray 53)).setCells w11.heap.size 0 (gy q4)) := ((Below.refl _ _).alloc (Nat.le_refl _) _).grown k6 (by simp) (fun q h => by cases h; exact Nat.le_refl _)
  have VY := Lib.hid o6
  clear V6 o6 k6
  go_upto_region 11 with (refine wpList_store_mid rfl 53 _ _ rfl w11.heap.size 0 (gy q4).toArray rfl rfl tR (HZM.out q4) (all_oneCell_toArray (HOM.out q4)) ?_)
  clear tR
  change Code.wp _ _ _ _ ((w11.alloc (.cells gzero.toArray 53)).setCells w11.heap.size 0 (gy q4))
  generalize (w11.alloc (.cells gzero.toArray 53)).setCells w11.heap.size 0 (gy q4) = w12 at *
  replace A3 := Lib.hid (Gam.At.kept A3.out hd)
  replace A4 := Lib.hid (Gam.At.kept A4.out hd)
  replace HA := Lib.hid (Gam.At.kept HA.out hd)
  replace HC := Lib.hid (Gam.At.kept HC.out hd)
  replace hb := hb.trans (hd.mono hb.size)
  replace VA := Lib.hid (VA.out.kept hd)
  replace VB := Lib.hid (VB.out.kept hd)
  replace VX := Lib.hid (VX.out.kept hd)
  clear hd
  generalize w11.heap.size = x2 at *
  refine wp_region_list ?_
  refine wpList_load_mid rfl 53 _ rfl x1 0 rfl (gx q3) _ VX.out.range Try.underlying53 rfl (HZL.out q3) ?_
  refine wpList_load_mid rfl 53 _ rfl x2 0 rfl (gy q4) _ VY.out.range Try.underlying53 rfl (HZM.out q4) ?_
  go_wp2_with fail
  refine (HIM.out _ _ _ A3.out A4.out).mono ?_
  rintro e w13 ⟨rfl, hd⟩
  replace A3 := Lib.hid (Gam.At.kept A3.out hd)
  replace A4 := Lib.hid (Gam.At.kept A4.out hd)
  replace HA := Lib.hid (Gam.At.kept HA.out hd)
  replace HC := Lib.hid (Gam.At.kept HC.out hd)
  replace hb := hb.trans (hd.mono hb.size)
  replace VA := Lib.hid (VA.out.kept hd)
  replace VB := Lib.hid (VB.out.kept hd)
  replace VX := Lib.hid (VX.out.kept hd)
  replace VY := Lib.hid (VY.out.kept hd)
  clear hd
  clear HIM
  have k1 : (sG != sG) = false := by simp
  go_upto_region 14 with fail
  have hd : Below w13.heap.size w13 w13.drew := (Below.refl _ _).drew
  replace A3 := Lib.hid (Gam.At.kept A3.out hd)
  replace A4 := Lib.hid (Gam.At.kept A4.out hd)
  replace HA := Lib.hid (Gam.At.kept HA.out hd)
  replace HC := Lib.hid (Gam.At.kept HC.out hd)
  replace hb := hb.trans (hd.mono hb.size)
  replace VA := Lib.hid (VA.out.kept hd)
  replace VB := Lib.hid (VB.out.kept hd)
  replace VX := Lib.hid (VX.out.kept hd)
  replace VY := Lib.hid (VY.out.kept hd)
  clear hd
  refine wp_region_held_drew (S := fun w' => w'.rangeAt x1 0 (gx q3) ∧ w'.rangeAt w.heap.size 0 (gx p)) (by kernel_rfl) ⟨VX.out.range, VA.out.range⟩ (fun hHeld => ?_)
  generalize w13.drew = w14 at *
  refine slotA 0 35 (.agg (gx q3).toArray) ?_ (hy := yieldsIf_load_mid (by rfl) 53 _ rfl x1 0 rfl (gx q3) _ (fun _ h => h.1) Try.underlying53 rfl (HZL.out q3))
  simp only [S3]
  refine slotA 1 36 (.agg (gx p).toArray) ?_ (hy := yieldsIf_load_mid (by rfl) 39 _ rfl w.heap.size 0 rfl (gx p) _ (fun _ h => h.2) Try.underlying39 rfl (HSL.out p))
  simp only [S3]
  refine wpAnyH_ready (rs := [2]) (by kernel_rfl) (by simp) ?_
  refine AllReadyH.cons (o := _) rfl (fun K hK => ?_) AllReadyH.nil
  go_simp
  refine (HTL.out _ HA.out).mono ?_
  rintro e w14a ⟨q5, rfl, ho, hd⟩
  have A5 := Lib.hid (Gam.Own.at ho)
  clear ho
  replace A3 := Lib.hid (Gam.At.kept A3.out hd)
  replace A4 := Lib.hid (Gam.At.kept A4.out hd)
  replace HA := Lib.hid (Gam.At.kept HA.out hd)
  replace HC := Lib.hid (Gam.At.kept HC.out hd)
  replace hb := hb.trans (hd.mono hb.size)
  replace VA := Lib.hid (VA.out.kept hd)
  replace VB := Lib.hid (VB.out.kept hd)
  replace VX := Lib.hid (VX.out.kept hd)
  replace VY := Lib.hid (VY.out.kept hd)
  clear hd
  go_wp2_with fail
  refine hK.out _ _ ⟨VX.out.range, VA.out.range⟩ (fun hHeld2 => ?_)
  clear hK K hHeld
  refine wpAnyH_ready (rs := [3]) (by kernel_rfl) (by simp) ?_
  refine AllReadyH.cons (o := _) rfl (fun K hK => ?_) AllReadyH.nil
  go_simp
  refine (HEL.out _ _ _ A3.out A5.out).mono ?_
  rintro e w14b ⟨rfl, hd⟩
  replace A3 := Lib.hid (Gam.At.kept A3.out hd)
  replace A4 := Lib.hid (Gam.At.kept A4.out hd)
  replace HA := Lib.hid (Gam.At.kept HA.out hd)
  replace HC := Lib.hid (Gam.At.kept HC.out hd)
  replace hb := hb.trans (hd.mono hb.size)
  replace VA := Lib.hid (VA.out.kept hd)
  replace VB := Lib.hid (VB.out.kept hd)
  replace VX := Lib.hid (VX.out.kept hd)
  replace VY := Lib.hid (VY.out.kept hd)
  clear hd
  clear A5
  go_wp2_with fail
  refine hK.out _ _ ⟨VX.out.range, VA.out.range⟩ (fun hHeld => ?_)
  clear hK K hHeld2
  refine wpAnyH_ready (rs := [4]) (by kernel_rfl) (by simp) ?_
  refine AllReadyH.cons (o := _) rfl (fun K hK => ?_) AllReadyH.nil
  go_simp
  refine hK.out _ _ ⟨VX.out.range, VA.out.range⟩ (fun hHeld2 => ?_)
  clear hK K hHeld
  refine wpAnyH_done (by kernel_rfl) ?_ _
  clear hHeld2
  go_upto_region 16 with fail
  have hd : Below w14b.heap.size w14b w14b.drew := (Below.refl _ _).drew
  replace A3 := Lib.hid (Gam.At.kept A3.out hd)
  replace A4 := Lib.hid (Gam.At.kept A4.out hd)
  replace HA := Lib.hid (Gam.At.kept HA.out hd)
  replace HC := Lib.hid (Gam.At.kept HC.out hd)
  replace hb := hb.trans (hd.mono hb.size)
  replace VA := Lib.hid (VA.out.kept hd)
  replace VB := Lib.hid (VB.out.kept hd)
  replace VX := Lib.hid (VX.out.kept hd)
  replace VY := Lib.hid (VY.out.kept hd)
  clear hd
  refine wp_region_held_drew (S := fun w' => w'.rangeAt x2 0 (gy q4) ∧ w'.rangeAt (w.heap.size + 1) 0 (gy q)) (by kernel_rfl) ⟨VY.out.range, VB.out.range⟩ (fun hHeld => ?_)
  generalize w14b.drew = w15 at *
  refine slotA 0 40 (.agg (gy q4).toArray) ?_ (hy := yieldsIf_load_mid (by rfl) 53 _ rfl x2 0 rfl (gy q4) _ (fun _ h => h.1) Try.underlying53 rfl (HZM.out q4))
  simp only [S3]
  refine slotA 1 41 (.agg (gy q).toArray) ?_ (hy := yieldsIf_load_mid (by rfl) 39 _ rfl (w.heap.size + 1) 0 rfl (gy q) _ (fun _ h => h.2) Try.underlying39 rfl (HSM.out q))
  simp only [S3]
  refine wpAnyH_ready (rs := [2]) (by kernel_rfl) (by simp) ?_
  refine AllReadyH.cons (o := _) rfl (fun K hK => ?_) AllReadyH.nil
  go_simp
  refine (HTM.out _ HC.out).mono ?_
  rintro e w15a ⟨q5, rfl, ho, hd⟩
  have A5 := Lib.hid (Gam.Own.at ho)
  clear ho
  replace A3 := Lib.hid (Gam.At.kept A3.out hd)
  replace A4 := Lib.hid (Gam.At.kept A4.out hd)
  replace HA := Lib.hid (Gam.At.kept HA.out hd)
  replace HC := Lib.hid (Gam.At.kept HC.out hd)
  replace hb := hb.trans (hd.mono hb.size)
  replace VA := Lib.hid (VA.out.kept hd)
  replace VB := Lib.hid (VB.out.kept hd)
  replace VX := Lib.hid (VX.out.kept hd)
  replace VY := Lib.hid (VY.out.kept hd)
  clear hd
  go_wp2_with fail
  refine hK.out _ _ ⟨VY.out.range, VB.out.range⟩ (fun hHeld2 => ?_)
  clear hK K hHeld
  refine wpAnyH_ready (rs := [3]) (by kernel_rfl) (by simp) ?_
  refine AllReadyH.cons (o := _) rfl (fun K hK => ?_) AllReadyH.nil
  go_simp
  refine (HEM.out _ _ _ A4.out A5.out).mono ?_
  rintro e w15b ⟨rfl, hd⟩
  replace A3 := Lib.hid (Gam.At.kept A3.out hd)
  replace A4 := Lib.hid (Gam.At.kept A4.out hd)
  replace HA := Lib.hid (Gam.At.kept HA.out hd)
  replace HC := Lib.hid (Gam.At.kept HC.out hd)
  replace hb := hb.trans (hd.mono hb.size)
  replace VA := Lib.hid (VA.out.kept hd)
  replace VB := Lib.hid (VB.out.kept hd)
  replace VX := Lib.hid (VX.out.kept hd)
  replace VY := Lib.hid (VY.out.kept hd)
  clear hd
  clear A5
  go_wp2_with fail
  refine hK.out _ _ ⟨VY.out.range, VB.out.range⟩ (fun hHeld => ?_)
  clear hK K hHeld2
  refine wpAnyH_ready (rs := [4]) (by kernel_rfl) (by simp) ?_
  refine AllReadyH.cons (o := _) rfl (fun K hK => ?_) AllReadyH.nil
  go_simp
  refine hK.out _ _ ⟨VY.out.range, VB.out.range⟩ (fun hHeld2 => ?_)
  clear hK K hHeld
  refine wpAnyH_done (by kernel_rfl) ?_ _
  clear hHeld2
  clear VA VB VX VY HA HC A3 A4
  go_wp2
  go_ret
  exact ⟨rfl, hb⟩
end Go.Proofs.Ytalnbgcdhcnjfaa
