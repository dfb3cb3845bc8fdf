/- Contracts: the tiles that a player has not seen: the program and the reference. Go's tables of unicode and unicode/utf8 hold what is laid (CEnv), internal/bytealg's MaxLen a number (EnvL); texts fit. -/
import Derived.Test.YtpkadgibfmjmcaaGreatDoorGmN
namespace Go.Proofs.YtpkadgibfmjmcaaGreatDoor
open Go.ChangeShapes Go.WideShapes Go.ChangeAt Go.RowKit Go.Sort

/-- what a game that is valid says of its bag and racks -/
structure Gam.Held (x : Gam) : Prop where
  racks : x.racks.length = 2
  bag : x.bag.data.toList.all tileB = true
  bagL : x.bag.size ≤ 120
  rack : ∀ j, j < 2 → (x.rack j).data.toList.all tileB = true
  rackL : ∀ j, j < 2 → (x.rack j).size ≤ 7
theorem Gam.held {x : Gam} (h : x.ok = true) : x.Held := by
  have hh : x.headOk = true := by
    cases e : x.headOk with
    | false => rw [Gam.no_head e] at h; cases h
    | true => rfl
  have hl : x.listOk = true := by
    cases e : x.listOk with
    | false => rw [Gam.no_list e] at h; cases h
    | true => rfl
  have hs : ∀ j, j < 2 → x.sideOk j = true := by
    intro j hj
    cases e : x.sideOk j with
    | false => rw [Gam.no_side hj e] at h; cases h
    | true => rfl
  unfold Gam.headOk at hh
  unfold Gam.listOk at hl
  simp only [Bool.and_eq_true, decide_eq_true_eq] at hh hl
  have hbg : bagOk x.bag.data.toList = true := by simp only [hh]
  obtain ⟨hbt, hbl⟩ := bag_parts hbg
  exact ⟨by omega, hbt, by simpa using hbl, fun j hj => rack_tl (side_rack (hs j hj)), fun j hj => by have := (rack_pile (side_rack (hs j hj))).2; simpa using this⟩
/-- the tiles that a player has not seen, and a code -/
def Gam.unseen (x : Gam) (k : Int) : ByteArray × Int := if x.ok = false then (⟨#[]⟩, 1) else if withinB k 0 1 = false then (⟨#[]⟩, 2) else (mkB (srtL (x.bag.data.toList ++ (x.rack (1 - k).toNat).data.toList)), 0)
theorem Gam.unseen0 {x : Gam} {k : Int} (h : x.ok = false) : x.unseen k = (⟨#[]⟩, 1) := by unfold Gam.unseen; rw [if_pos h]
theorem Gam.unseen1 {x : Gam} {k : Int} (h : x.ok = true) (h1 : withinB k 0 1 = false) : x.unseen k = (⟨#[]⟩, 2) := by unfold Gam.unseen; rw [if_neg (by rw [h]; decide), if_pos h1]
theorem Gam.unseen2 {x : Gam} {k : Int} (h : x.ok = true) (h1 : withinB k 0 1 = true) : x.unseen k = (mkB (srtL (x.bag.data.toList ++ (x.rack (1 - k).toNat).data.toList)), 0) := by unfold Gam.unseen; rw [if_neg (by rw [h]; decide), if_neg (by rw [h1]; decide)]
theorem ret_text {w w' : World} {p : ByteArray × Int} {a : ByteArray} {b : Int} {e : Ending} (h : p = (a, b)) (he : e = .returned (.tuple #[.string a, .int .i64 b])) (hb : Below w.heap.size w w') : e = .returned (.tuple #[.string p.1, .int .i64 p.2]) ∧ Below w.heap.size w w' := by
  rw [h]
  exact ⟨he, hb⟩
set_option maxRecDepth 100000 in
set_option maxHeartbeats 8000000 in
theorem specUnseenBy_any (x : Gam) (p : GaA) (k : Int) (w : World) (ha : x.At p w) (hf : x.fit) :
    Calls Tryz.prog 40 #[.agg (gcells x p).toArray, .int .i64 k] w fun e w' => e = .returned (.tuple #[.string (x.unseen k).1, .int .i64 (x.unseen k).2]) ∧ Below w.heap.size w w' := by
  have HG := Lib.hid (GAt.new w x p 75 ha)
  have hb : Below w.heap.size w (w.alloc (.cells (gcells x p).toArray 75)) := (Below.refl _ _).alloc (Nat.le_refl _) _
  have HOK : Hid (∀ W, GAt W w.heap.size x p → Calls Tryz.prog 73 #[.pointer (some ⟨w.heap.size, 0, none⟩)] W fun e w' => e = .returned (.bool x.ok) ∧ Below W.heap.size W w') := Lib.hid (fun W h => l18Ok_any x p w.heap.size W h hf)
  have HIN : Hid (∀ W, Calls Tryz.prog 84 #[.int .i64 k, .int .i64 0, .int .i64 1] W fun e w' => e = .returned (.bool (withinB k 0 1)) ∧ W = w') := Lib.hid (fun W => l00In_any _ _ _ W)
  clear ha hf
  obtain ⟨cs, hcs⟩ : ∃ cs, cs = gcells x p := ⟨_, rfl⟩
  rw [← hcs]
  rw [← hcs] at HG hb
  clear hcs
  go_enter Tryz.func40, Tryz.ntmps40
  go_wp2_with fail
  refine (HOK.out _ HG.out).mono ?_
  rintro e w2 ⟨rfl, hd⟩
  replace hb := hb.trans (hd.mono hb.size)
  replace HG := Lib.hid (HG.out.kept hd)
  clear hd
  clear HOK
  cases hk : x.ok with
  | false =>
    have HW := Lib.hid (Gam.unseen0 (k := k) hk)
    clear hk
    go_wp2
    go_ret2
    exact ret_text (HW.out) rfl hb
  | true =>
    have HK := Lib.hid hk
    clear hk
    go_wp2_with fail
    refine (HIN.out _).mono ?_
    rintro e w' ⟨rfl, rfl⟩
    clear HIN
    cases hi : withinB k 0 1 with
    | false =>
      have HW := Lib.hid (Gam.unseen1 HK.out hi)
      clear hi
      go_wp2
      go_ret2
      exact ret_text (HW.out) rfl hb
    | true =>
      have HW := Lib.hid (Gam.unseen2 HK.out hi)
      have HIW := Lib.hid (within_iff.1 hi)
      clear hi
      go_upto_region 5 with fail
      have HD := Lib.hid (Gam.held HK.out)
      have hjl : ((1 : Int) - k).toNat < 2 := by have := HIW.out.1; have := HIW.out.2; omega
      have hjt : (x.bag.data.toList ++ (x.rack (1 - k).toNat).data.toList).all tileB = true := by rw [List.all_append, HD.out.bag, HD.out.rack _ hjl]; rfl
      have hjz : (x.bag ++ x.rack (1 - k).toNat).size ≤ 127 := by
        have := HD.out.bagL
        have := HD.out.rackL _ hjl
        rw [ByteArray.size_append]
        omega
      have hjd : (x.bag ++ x.rack (1 - k).toNat).data.toList = x.bag.data.toList ++ (x.rack (1 - k).toNat).data.toList := by rw [cat_mk, mkB_data]
      have HSO : Hid (∀ W, Calls Tryz.prog 85 #[.string (x.bag ++ x.rack (1 - k).toNat)] W fun e w' => e = .returned (.string (mkB (srtL (x.bag.data.toList ++ (x.rack (1 - k).toNat).data.toList)))) ∧ Below W.heap.size W w') := Lib.hid (fun W => by
        have h := l03Sort_any (x.bag ++ x.rack (1 - k).toNat) W (by omega)
        rw [hjd] at h
        exact h.mono fun e w' ⟨R, h1, h2, h3, h4⟩ => ⟨by rw [h1, srt_of hjt h2 h3], h4⟩)
      clear hjt hjz hjd
      generalize mkB (srtL (x.bag.data.toList ++ (x.rack (1 - k).toNat).data.toList)) = out at *
      obtain ⟨rb, ro, hra, hrc⟩ := (HG.out.at_.2.1).open (show (1 - k).toNat < x.racks.length by have := HD.out.racks; omega)
      have rc : w2.cell? ⟨rb, ro + (1 - k).toNat, none⟩ = some (.string (x.rack (1 - k).toNat)) := words_cell hrc (show (1 - k).toNat < x.racks.length by have := HD.out.racks; omega)
      have c14 := HG.out.cell (i := 14) rfl
      rw [hra, HD.out.racks] at c14
      have b14 := cell_regrown c14
      have b13 := cell_regrown (HG.out.cell (i := 13) rfl)
      have br := cell_regrown rc
      have hcat : x.bag.size + (x.rack (1 - k).toNat).size ≤ 9223372036854775807 := by
        have h := HD.out.bagL
        have h2 := HD.out.rackL _ hjl
        omega
      clear hrc hra c14 rc
      obtain rfl | rfl : k = 0 ∨ k = 1 := by have := HIW.out.1; have := HIW.out.2; omega
      all_goals
        simp only [Int.sub_zero, Int.toNat_one, Int.sub_self, Int.toNat_zero, Nat.add_zero] at br hcat HSO
        clear HG HD HIW hjl
        generalize x.rack _ = rk at *
        refine wp_region_quiet_below (by kernel_rfl) (by kernel_rfl) ?_
        repeat (go_big_quiet_step ((first | (go_at_call 85; exact Calls.regrown_of (HSO.out _)))))
        refine wpQuiet_nil ?_
        intro wx hw'
        obtain ⟨⟨dq, oq⟩, hw''⟩ := hw'
        have hd := below_regrown w2 dq oq
        rw [← hw''] at hd
        clear hw'' b13 b14 br
        replace hb := hb.trans (hd.mono hb.size)
        clear hd
        go_wp2
        go_ret2
        exact ret_text (HW.out) rfl hb
set_option maxRecDepth 100000 in
set_option maxHeartbeats 8000000 in
theorem implUnseenBy_any (x : Gam) (p : GaA) (k : Int) (w : World) (ha : x.At p w) (hf : x.fit) (htz : x.setup.tiles.letters.size ≤ 1048576) (hwz : x.last.play.word.size ≤ 1048576) (hE : CEnv w) (hL : EnvL w) :
    Calls Tryz.prog 41 #[.agg (gcells x p).toArray, .int .i64 k] w fun e w' => e = .returned (.tuple #[.string (x.unseen k).1, .int .i64 (x.unseen k).2]) ∧ Below w.heap.size w w' := by
  have HG := Lib.hid (GAt.new w x p 75 ha)
  have hb : Below w.heap.size w (w.alloc (.cells (gcells x p).toArray 75)) := (Below.refl _ _).alloc (Nat.le_refl _) _
  have HE := Lib.hid (hE.kept hb)
  have HL := Lib.hid (hL.kept hb)
  have HSZ := Lib.hid (size_game x p)
  have HRA : Hid ((w.alloc (.cells (gcells x p).toArray 75)).rangeAt w.heap.size 0 (gcells x p)) := Lib.hid HG.out.cells
  have HVG : Hid (∀ W, x.At p W → CEnv W → EnvL W → Calls Tryz.prog 36 #[.agg (gcells x p).toArray] W fun e w' => e = .returned (.bool x.ok) ∧ Below W.heap.size W w') := Lib.hid (fun W h h2 h3 => implValidGame_any x p W h hf htz hwz h2 h3)
  have HIN : Hid (∀ W, Calls Tryz.prog 78 #[.int .i64 k, .int .i64 0, .int .i64 1] W fun e w' => e = .returned (.bool (withinB k 0 1)) ∧ W = w') := Lib.hid (fun W => within_any _ _ _ W)
  clear ha hf htz hwz hE hL
  obtain ⟨cs, hcs⟩ : ∃ cs, cs = gcells x p := ⟨_, rfl⟩
  rw [← hcs]
  rw [← hcs] at HG hb HE HL HSZ HRA HVG
  clear hcs
  go_enter Tryz.func41, Tryz.ntmps41
  go_upto_region 1 with fail
  generalize w.alloc (.cells cs.toArray 75) = w1 at *
  have rA := HRA.out
  clear HRA
  refine wp_region_list ?_
  refine wpList_load_mid rfl 75 _ rfl w.heap.size 0 rfl cs _ rA Tryz.underlying75 rfl HSZ.out ?_
  clear rA
  go_wp2_with fail
  refine (HVG.out _ HG.out.at_ HE.out HL.out).mono ?_
  rintro e w2 ⟨rfl, hd⟩
  replace hb := hb.trans (hd.mono hb.size)
  replace HG := Lib.hid (HG.out.kept hd)
  clear hd
  clear HVG HE HL HSZ
  cases hk : x.ok with
  | false =>
    have HW := Lib.hid (Gam.unseen0 (k := k) hk)
    clear hk
    go_wp2
    go_ret2
    exact ret_text (HW.out) rfl hb
  | true =>
    have HK := Lib.hid hk
    clear hk
    go_wp2_with fail
    refine (HIN.out _).mono ?_
    rintro e w' ⟨rfl, rfl⟩
    clear HIN
    cases hi : withinB k 0 1 with
    | false =>
      have HW := Lib.hid (Gam.unseen1 HK.out hi)
      clear hi
      go_wp2
      go_ret2
      exact ret_text (HW.out) rfl hb
    | true =>
      have HW := Lib.hid (Gam.unseen2 HK.out hi)
      have HIW := Lib.hid (within_iff.1 hi)
      clear hi
      go_upto_region 5 with fail
      have HD := Lib.hid (Gam.held HK.out)
      have hjl : ((1 : Int) - k).toNat < 2 := by have := HIW.out.1; have := HIW.out.2; omega
      have hjt : (x.bag.data.toList ++ (x.rack (1 - k).toNat).data.toList).all tileB = true := by rw [List.all_append, HD.out.bag, HD.out.rack _ hjl]; rfl
      have hjz : (x.bag ++ x.rack (1 - k).toNat).size ≤ 127 := by
        have := HD.out.bagL
        have := HD.out.rackL _ hjl
        rw [ByteArray.size_append]
        omega
      have hjd : (x.bag ++ x.rack (1 - k).toNat).data.toList = x.bag.data.toList ++ (x.rack (1 - k).toNat).data.toList := by rw [cat_mk, mkB_data]
      have HSO : Hid (∀ W, Calls Tryz.prog 86 #[.string (x.bag ++ x.rack (1 - k).toNat)] W fun e w' => e = .returned (.string (mkB (srtL (x.bag.data.toList ++ (x.rack (1 - k).toNat).data.toList)))) ∧ Below W.heap.size W w') := Lib.hid (fun W => by
        have h := sorted_any (x.bag ++ x.rack (1 - k).toNat) W (by omega) (by rw [hjd]; exact hjt)
        rw [hjd] at h
        exact h)
      clear hjt hjz hjd
      generalize mkB (srtL (x.bag.data.toList ++ (x.rack (1 - k).toNat).data.toList)) = out at *
      obtain ⟨rb, ro, hra, hrc⟩ := (HG.out.at_.2.1).open (show (1 - k).toNat < x.racks.length by have := HD.out.racks; omega)
      have rc : w2.cell? ⟨rb, ro + (1 - k).toNat, none⟩ = some (.string (x.rack (1 - k).toNat)) := words_cell hrc (show (1 - k).toNat < x.racks.length by have := HD.out.racks; omega)
      have c14 := HG.out.cell (i := 14) rfl
      rw [hra, HD.out.racks] at c14
      have b14 := cell_regrown c14
      have b13 := cell_regrown (HG.out.cell (i := 13) rfl)
      have br := cell_regrown rc
      have hcat : x.bag.size + (x.rack (1 - k).toNat).size ≤ 9223372036854775807 := by
        have h := HD.out.bagL
        have h2 := HD.out.rackL _ hjl
        omega
      clear hrc hra c14 rc
      obtain rfl | rfl : k = 0 ∨ k = 1 := by have := HIW.out.1; have := HIW.out.2; omega
      all_goals
        simp only [Int.sub_zero, Int.toNat_one, Int.sub_self, Int.toNat_zero, Nat.add_zero] at br hcat HSO
        clear HG HD HIW hjl
        generalize x.rack _ = rk at *
        refine wp_region_quiet_below (by kernel_rfl) (by kernel_rfl) ?_
        repeat (go_big_quiet_step ((first | (go_at_call 86; exact Calls.regrown_of (HSO.out _)))))
        refine wpQuiet_nil ?_
        intro wx hw'
        obtain ⟨⟨dq, oq⟩, hw''⟩ := hw'
        have hd := below_regrown w2 dq oq
        rw [← hw''] at hd
        clear hw'' b13 b14 br
        replace hb := hb.trans (hd.mono hb.size)
        clear hd
        go_wp2
        go_ret2
        exact ret_text (HW.out) rfl hb
end Go.Proofs.YtpkadgibfmjmcaaGreatDoor
