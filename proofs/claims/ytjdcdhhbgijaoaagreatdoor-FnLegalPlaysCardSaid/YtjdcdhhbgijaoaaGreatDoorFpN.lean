/- Contract: a play's new squares: the reference. For whatever board and play. -/
import Derived.Test.YtjdcdhhbgijaoaaGreatDoorFpI
import Derived.Test.YtjdcdhhbgijaoaaGreatDoorLgF
import Derived.Test.YtjdcdhhbgijaoaaGreatDoorDbS
namespace Go.Proofs.YtjdcdhhbgijaoaaGreatDoor
open Go.ChangeShapes Go.WideShapes Go.ChangeAt Go.RowKit Go.Sort

theorem sqOf_down {p : Ply} (h : p.down = true) (i : Nat) : sqOf p i = (p.flat.col + i, p.flat.row) := by
  simp [sqOf, Ply.sr, Ply.sc, Ply.flat, Ply.turn, h]
theorem sqOf_across {p : Ply} (h : p.down = false) (i : Nat) : sqOf p i = (p.flat.row, p.flat.col + i) := by
  simp [sqOf, Ply.sr, Ply.sc, Ply.flat, h]
theorem takeF_snoc {fr : List Nat} {k : Nat} (h : k < fr.length) : fr.take (k + 1) = fr.take k ++ [fr[k]] := List.take_succ_eq_append_getElem h
set_option maxRecDepth 100000 in
set_option maxHeartbeats 2000000 in
theorem specNewSquares_any (b : Brd) (p : Ply) (w : World) (hf : b.fit) (hs : p.fit) :
    Calls Tryz.prog 44 #[.agg #[.int .i64 b.size, .string b.premium, .string b.cells], .agg #[.int .i64 p.row, .int .i64 p.col, .bool p.down, .string p.word]] w (SqPost b p w) := by
  obtain ⟨i0, hi0, hi1, hi2, hi3⟩ := info_parts infoSq
  obtain ⟨w2, hw2⟩ : ∃ w2, w2 = (w.alloc (.cells #[.int .i64 b.size, .string b.premium, .string b.cells] 25)).alloc (.cells #[.int .i64 p.row, .int .i64 p.col, .bool p.down, .string p.word] 30) := ⟨_, rfl⟩
  have hb : Below w.heap.size w w2 := by rw [hw2]; exact ((Below.refl _ _).alloc (Nat.le_refl _) _).alloc (by simp) _
  have VB : Hid (VarAt w2 w.heap.size 25 [.int .i64 b.size, .string b.premium, .string b.cells]) := by
    rw [hw2]
    exact Lib.hid ((VarAt.new w 25 [.int .i64 b.size, .string b.premium, .string b.cells]).kept ((Below.refl _ _).alloc (Nat.le_refl _) _))
  have VP : Hid (VarAt w2 (w.heap.size + 1) 30 [.int .i64 p.row, .int .i64 p.col, .bool p.down, .string p.word]) := by
    rw [hw2]
    have := VarAt.new (w.alloc (.cells #[.int .i64 b.size, .string b.premium, .string b.cells] 25)) 30 [.int .i64 p.row, .int .i64 p.col, .bool p.down, .string p.word]
    simp only [World.size_alloc] at this
    exact Lib.hid this
  have HG : Hid (BAt w2 w.heap.size 0 b) := Lib.hid ⟨VB.out.cell (i := 0) rfl, VB.out.cell (i := 1) rfl, VB.out.cell (i := 2) rfl⟩
  have HW2 := Lib.hid hw2
  clear hw2 VB
  cases hk : b.okPlay p with
  | false =>
    refine Calls.mono (R := fun e w' => e = .returned (.tuple #[.slice none 0 0, .int .i64 1]) ∧ Below w.heap.size w w') ?_ (sq_no hk)
    go_enter Tryz.func44, Tryz.ntmps44
    go_upto_region 1 with fail
    rw [← HW2.out]
    clear HW2
    have c0 := VP.out.cell (i := 0) rfl
    have c1 := VP.out.cell (i := 1) rfl
    have c2 := VP.out.cell (i := 2) rfl
    have c3 := VP.out.cell (i := 3) rfl
    go_wp2_with fail
    refine (l12Ok_any b p w.heap.size 0 _ HG.out hf hs).mono ?_
    rintro e w3 ⟨rfl, hd⟩
    rw [hk]
    clear hk c0 c1 c2 c3
    replace hb := hb.trans (hd.mono hb.size)
    replace VP := Lib.hid (VP.out.kept hd)
    clear hd
    go_wp2
    go_ret2
    exact ⟨rfl, hb⟩
  | true =>
    obtain ⟨n, hp⟩ := okPlay_good hk
    refine Calls.mono (R := fun e w' => ∃ g cap, e = .returned (.tuple #[.slice (some ⟨g, 0, none⟩) (b.fresh p).length cap, .int .i64 0]) ∧ w'.ownsRow w.heap.size 73 2 (.slice (some ⟨g, 0, none⟩) (b.fresh p).length cap) (b.fresh p).length (((b.fresh p).map (sqOf p)).flatMap Sq.enc) ∧ Below w.heap.size w w') ?_ (sq_yes hk)
    have hs12 := hp.twelve
    have hn15 := hp.good.hi
    have hfl : (b.fresh p).length ≤ p.word.size := freshL_len _ _ _ _
    have hfc0 : 0 ≤ p.flat.col := by rw [Ply.flat_col]; exact hp.c0
    have hfc1 : p.flat.col ≤ 15 := by rw [Ply.flat_col]; have := hp.c1; omega
    have HLT : Hid (∀ k (h : k < (b.fresh p).length), (b.fresh p)[k] < p.word.size) := Lib.hid (fun k h => (freshL_lt (List.getElem_mem h)).1)
    have HDN : Hid (p.down = true → ∀ i, sqOf p i = (p.flat.col + i, p.flat.row)) := Lib.hid (fun h i => sqOf_down h i)
    have HAC : Hid (p.down = false → ∀ i, sqOf p i = (p.flat.row, p.flat.col + i)) := Lib.hid (fun h i => sqOf_across h i)
    have HFL : Hid (∀ W, BAt W w.heap.size 0 b → Calls Tryz.prog 91 #[.pointer (some ⟨w.heap.size, 0, none⟩), .agg #[.int .i64 p.row, .int .i64 p.col, .bool p.down, .string p.word]] W fun e w' => e = .returned (flatV b p) ∧ Below W.heap.size W w') := Lib.hid (fun W h => l12Flat_any b p n w.heap.size 0 W hp.good h)
    have HFR : Hid (∀ x W, BAt W x 0 (b.flat p.down) → Calls Tryz.prog 98 #[.pointer (some ⟨x, 0, none⟩), .agg #[.int .i64 p.flat.row, .int .i64 p.flat.col, .bool p.flat.down, .string p.word]] W (NatsPost W (b.fresh p))) := Lib.hid (fun x W2 h2 => by
      have := l12Fresh_any (b.flat p.down) n p.flat.row p.flat.col p.flat.down p.word x 0 W2 (hp.good.flat p.down) h2 hp.twelve (by rw [Ply.flat_row]; exact hp.r0) (by rw [Ply.flat_row]; exact hp.r1) (by rw [Ply.flat_col]; exact hp.c0) (by rw [Ply.flat_col]; exact hp.c1)
      rw [Ply.flat_row, Ply.flat_col] at this ⊢
      exact this)
    clear hp
    generalize b.fresh p = fr at *
    generalize sqOf p = sq at *
    go_enter Tryz.func44, Tryz.ntmps44
    go_upto_region 1 with fail
    rw [← HW2.out]
    clear HW2
    have c0 := VP.out.cell (i := 0) rfl
    have c1 := VP.out.cell (i := 1) rfl
    have c2 := VP.out.cell (i := 2) rfl
    have c3 := VP.out.cell (i := 3) rfl
    go_wp2_with fail
    refine (l12Ok_any b p w.heap.size 0 _ HG.out hf hs).mono ?_
    rintro e w3 ⟨rfl, hd⟩
    rw [hk]
    clear hk c0 c1 c2 c3
    replace hb := hb.trans (hd.mono hb.size)
    replace VP := Lib.hid (VP.out.kept hd)
    replace HG := Lib.hid (HG.out.kept hd)
    clear hd
    have c0 := VP.out.cell (i := 0) rfl
    have c1 := VP.out.cell (i := 1) rfl
    have c2 := VP.out.cell (i := 2) rfl
    have c3 := VP.out.cell (i := 3) rfl
    go_wp2_with fail
    refine (HFL.out _ HG.out).mono ?_
    rintro e w4 ⟨rfl, hd⟩
    unfold flatV
    clear c0 c1 c2 c3
    replace hb := hb.trans (hd.mono hb.size)
    replace VP := Lib.hid (VP.out.kept hd)
    replace HG := Lib.hid (HG.out.kept hd)
    clear hd
    generalize b.flat p.down = f at *
    generalize p.flat.row = fr0 at *
    generalize p.flat.col = fc at *
    generalize p.flat.down = fd at *
    have HF : Hid (BAt ((w4.alloc (.cells #[.int .i64 f.size, .string f.premium, .string f.cells] 25)).alloc (.cells #[.int .i64 fr0, .int .i64 fc, .bool fd, .string p.word] 30)) w4.heap.size 0 f) := Lib.hid ((BAt.new w4 f 25).kept ((Below.refl _ _).alloc (Nat.le_refl _) _))
    have HQ : Hid (VarAt ((w4.alloc (.cells #[.int .i64 f.size, .string f.premium, .string f.cells] 25)).alloc (.cells #[.int .i64 fr0, .int .i64 fc, .bool fd, .string p.word] 30)) (w4.heap.size + 1) 30 [.int .i64 fr0, .int .i64 fc, .bool fd, .string p.word]) := Lib.hid (by
      have := VarAt.new (w4.alloc (.cells #[.int .i64 f.size, .string f.premium, .string f.cells] 25)) 30 [.int .i64 fr0, .int .i64 fc, .bool fd, .string p.word]
      simp only [World.size_alloc] at this
      exact this)
    have hd : Below w4.heap.size w4 ((w4.alloc (.cells #[.int .i64 f.size, .string f.premium, .string f.cells] 25)).alloc (.cells #[.int .i64 fr0, .int .i64 fc, .bool fd, .string p.word] 30)) := ((Below.refl _ _).alloc (Nat.le_refl _) _).alloc (by simp) _
    replace hb := hb.trans (hd.mono hb.size)
    replace VP := Lib.hid (VP.out.kept hd)
    replace HG := Lib.hid (HG.out.kept hd)
    clear hd
    go_upto_region 4 with fail
    generalize (w4.alloc (.cells #[.int .i64 f.size, .string f.premium, .string f.cells] 25)).alloc (.cells #[.int .i64 fr0, .int .i64 fc, .bool fd, .string p.word] 30) = w5 at *
    have q0 := HQ.out.cell (i := 0) rfl
    have q1 := HQ.out.cell (i := 1) rfl
    have q2 := HQ.out.cell (i := 2) rfl
    have q3 := HQ.out.cell (i := 3) rfl
    go_wp2_with fail
    refine (HFR.out _ _ HF.out).mono ?_
    rintro e w6 ⟨gl, cl, rfl, hol, hd⟩
    clear q0 q1 q2 q3 HF
    have HL := Lib.hid hol
    have hl5 := HQ.out.lt
    replace hb := hb.trans (hd.mono hb.size)
    replace VP := Lib.hid (VP.out.kept hd)
    replace HQ := Lib.hid (HQ.out.kept hd)
    clear hd
    clear hol HFR HFL HG
    generalize w4.heap.size + 1 = XQ at *
    have hb1 := hb
    have hb : Below w6.heap.size w6 (w6.alloc (.cells #[] 73)) := (Below.refl _ _).alloc (Nat.le_refl _) _
    have HO : Hid ((w6.alloc (.cells #[] 73)).ownsRow w6.heap.size 73 2 (.slice (some ⟨w6.heap.size, 0, none⟩) 0 0) 0 []) := Lib.hid (World.ownsRow_made (base := w6.heap.size) (e := 73) (size := 2) w6 #[] 0 (Nat.le_refl _) (by unfold maxLen; omega) rfl)
    go_wp2_with fail
    go_loopw [9, 10] (fun ov iv wr => ∃ (k gO cap : Nat), k ≤ fr.length ∧ iv = .int .i64 k ∧ ov = .slice (some ⟨gO, 0, none⟩) k cap ∧ Hid (wr.ownsRow w6.heap.size 73 2 (.slice (some ⟨gO, 0, none⟩) k cap) k (((fr.take k).map sq).flatMap Sq.enc)) ∧ Below w6.heap.size w6 wr) (fun _ iv _ => fr.length - (intOf iv).toNat)
    case atStart => exact ⟨0, _, 0, Nat.zero_le _, rfl, rfl, HO, hb⟩
    case round =>
      clear HO hb
      obtain ⟨k, gO, cap, hk, rfl, rfl, HO, hb⟩ := hrel
      by_cases hkl : k < fr.length
      · have hkI : (k : Int) < (fr.length : Int) := by omega
        have HTS := Lib.hid (takeF_snoc (fr := fr) hkl)
        have hlt := HLT.out k hkl
        have hfk := HL.out.cells rfl k (.int .i64 ((fr[k] : Nat) : Int)) (by
          have h2 := flatMap_get (enc := N64.enc) (sz := 1) (fun _ => rfl) fr (i := k) hkl (j := 0) (by omega)
          rw [Nat.mul_one, Nat.add_zero] at h2
          rw [h2]
          rfl)
        rw [Go.Addr.add_lit, Nat.zero_add] at hfk
        have hSQD : Hid (p.down = true → sq fr[k] = (fc + ((fr[k] : Nat) : Int), fr0)) := Lib.hid (fun h => HDN.out h _)
        have hSQA : Hid (p.down = false → sq fr[k] = (fr0, fc + ((fr[k] : Nat) : Int))) := Lib.hid (fun h => HAC.out h _)
        generalize fr[k] = f at *
        have wf : IntKind.i64.wrap (fc + (f : Int)) = fc + (f : Int) := IntWalk.i64_in _ (by omega)
        go_upto_region 9 with fail
        have hd : Below wr.heap.size wr wr.drew := (Below.refl _ _).drew
        replace hb := hb.trans (hd.mono hb.size)
        replace HO := Lib.hid (own_below HO.out hd)
        clear hd
        have hS : VarAt wr.drew XQ 30 [.int .i64 fr0, .int .i64 fc, .bool fd, .string p.word] ∧ wr.drew.cell? ⟨gl, k, none⟩ = some (.int .i64 (f : Int)) := ⟨HQ.out.kept hb, cell_kept hfk hb⟩
        refine wp_region_held_drew (S := fun W => VarAt W XQ 30 [.int .i64 fr0, .int .i64 fc, .bool fd, .string p.word] ∧ W.cell? ⟨gl, k, none⟩ = some (.int .i64 (f : Int))) (by kernel_rfl) hS (fun hHeld => ?_)
        generalize wr.drew = wE at *
        refine slotA 0 29 (.pointer (some ⟨XQ, 0, none⟩)) ?_
        simp only [S3]
        refine slotA 1 30 (.int .i64 fr0) ?_ (hy := Or.inl ⟨by rfl, fun w' hS => by have c9 := hS.1.cell (i := 0) rfl; go_simp⟩)
        simp only [S3]
        refine slotA 2 31 (.pointer (some ⟨XQ, 1, none⟩)) ?_
        simp only [S3]
        refine slotA 3 32 (.int .i64 fc) ?_ (hy := Or.inl ⟨by rfl, fun w' hS => by have c9 := hS.1.cell (i := 1) rfl; go_simp⟩)
        simp only [S3]
        refine slotA 4 33 (.slice (some ⟨gl, 0, none⟩) fr.length cl) ?_
        simp only [S3]
        refine slotA 5 34 (.int .i64 (k : Int)) ?_
        simp only [S3]
        refine slotA 6 35 (.pointer (some ⟨gl, k, none⟩)) ?_
        simp only [S3]
        refine slotA 7 36 (.int .i64 (f : Int)) ?_ (hy := Or.inl ⟨by rfl, fun w' hS => by have c9 := hS.2; go_simp⟩)
        simp only [S3]
        refine slotA 8 37 (.int .i64 (fc + (f : Int))) ?_
        simp only [S3]
        refine slotA 9 38 (.agg #[.int .i64 fr0, .int .i64 (fc + (f : Int))]) ?_
        simp only [S3]
        have hgO := (HO.out.lt gO rfl).2
        have hlq := hS.1.lt
        have hlc := block_lt hS.2
        have hzE := hb.size
        refine wpAnyH_ready (rs := [10]) (by kernel_rfl) (by simp) ?_
        refine AllReadyH.cons (o := _) rfl (fun K hK => ?_) AllReadyH.nil
        have hd : Below wE.heap.size wE (wE.alloc (.cells #[.int .i64 0, .int .i64 0] 73)) := (Below.refl _ _).alloc (Nat.le_refl _) _
        have VX := Lib.hid (VarAt.new wE 73 [.int .i64 0, .int .i64 0])
        replace hS : VarAt (wE.alloc (.cells #[.int .i64 0, .int .i64 0] 73)) XQ 30 [.int .i64 fr0, .int .i64 fc, .bool fd, .string p.word] ∧ (wE.alloc (.cells #[.int .i64 0, .int .i64 0] 73)).cell? ⟨gl, k, none⟩ = some (.int .i64 (f : Int)) := ⟨hS.1.kept hd, cell_kept hS.2 hd⟩
        replace hb := hb.trans (hd.mono hb.size)
        replace HO := Lib.hid (own_below HO.out hd)
        clear hd
        go_simp
        refine hK.out _ _ hS (fun hHeld2 => ?_)
        clear hK K hHeld
        generalize hXN : wE.heap.size = XN at *
        refine wpAnyH_ready (rs := [11]) (by kernel_rfl) (by simp) ?_
        refine AllReadyH.cons (o := _) rfl (fun K hK => ?_) AllReadyH.nil
        obtain ⟨o2, GG⟩ := VX.out.put [.int .i64 fr0, .int .i64 (fc + (f : Int))] rfl
        have tR := VX.out.there (n := 2) rfl
        refine mk_store rfl rfl 73 (.tmp 11) (.tmp 38) rfl XN 0 #[.int .i64 fr0, .int .i64 (fc + (f : Int))] rfl rfl tR (by kernel_rfl) (by simp [Value.oneCell']) ?_
        replace hS := And.intro (hS.1.grown GG (by simp; omega)) (GG.cell hS.2 (by simp; omega))
        refine hK.out _ _ hS (fun hHeld => ?_)
        clear hK K hHeld2 tR
        change wpAnyH _ _ _ _ _ _ _ _ (World.setCells _ XN 0 [.int .i64 fr0, .int .i64 (fc + (f : Int))])
        replace HO := Lib.hid (HO.out.kept GG (.inr (by simp [Value.ownBlock]; omega)))
        replace hb := hb.grown GG hb.size (fun q h => by cases h; omega)
        replace VX := Lib.hid o2
        clear o2 GG hS hHeld
        generalize World.setCells _ XN 0 [.int .i64 fr0, .int .i64 (fc + (f : Int))] = wz at *
        refine wpAnyH_done (by kernel_rfl) ?_ _
        have hlx := VX.out.lt
        have d2 := (VP.out.kept hb).cell (i := 2) rfl
        by_cases hdt : p.down = true
        rotate_left
        · have hdn : p.down = false := by simpa using hdt
          have HSQ := Lib.hid (hSQA.out hdn)
          rw [hdn] at d2
          clear hdn hdt
          go_upto_region 12 with fail
          clear d2
          have x0 := VX.out.cell (i := 0) rfl
          have x1 := VX.out.cell (i := 1) rfl
          have hd : Below wz.heap.size wz (wz.alloc (.cells #[.int .i64 ((fr0, fc + (f : Int))).1, .int .i64 ((fr0, fc + (f : Int))).2] 73)) := (Below.refl _ _).alloc (Nat.le_refl _) _
          have KN := Lib.hid (new_sq wz ((fr0, fc + (f : Int))) 73)
          have hzz := hb.size
          replace hb := hb.trans (hd.mono hb.size)
          replace HO := Lib.hid (own_below HO.out hd)
          clear hd
          go_wp2_with (at_builtin; go_must (refine wpList_append_own _ rfl (.tmp 46) (.tmp 48) 65 rfl w6.heap.size 73 i0 _ 2 16 Tryz.underlying65 hi0 hi1 hi2 hi3 rfl (by decide) _ k (((fr.take k).map sq).flatMap Sq.enc) (by rfl) HO.out ⟨wz.heap.size, 0, none⟩ 1 1 (Sq.enc ((fr0, fc + (f : Int)))) (by rfl) rfl KN.out (sq_one ((fr0, fc + (f : Int)))) ?c1 ?c2 ?c3 ?_))
          case c1 => unfold maxLen; omega
          case c2 => omega
          case c3 => (first | omega | (simp only [World.size_alloc]; omega))
          intro v' w8 hown hgr hnil
          obtain ⟨g7, cap7, rfl, _⟩ := own_some hown (fun e => by have h := hnil; rw [e] at h; simp at h)
          have hb8 := hb.grown hgr hb.size (fun q e => by have := (HO.out.lt q e).1; omega)
          have HO8 : Hid (w8.ownsRow w6.heap.size 73 2 (.slice (some ⟨g7, 0, none⟩) (k + 1) cap7) (k + 1) (((fr.take (k + 1)).map sq).flatMap Sq.enc)) := Lib.hid (by
            rw [HTS.out, List.map_append, List.map_cons, List.map_nil, HSQ.out, snoc_flat Sq.enc]; first | exact hown | (rw [← List.map_take] at hown; exact hown))
          clear hown hgr hnil KN HO hb x0 x1
          go_wp2
          go_roundw
          case rel => exact ⟨k + 1, g7, cap7, by omega, by go_num, rfl, HO8, hb8⟩
          case measure => simp [intOf]; omega
        · have HSQ := Lib.hid (hSQD.out hdt)
          rw [hdt] at d2
          clear hdt
          have x0 := VX.out.cell (i := 0) rfl
          have x1 := VX.out.cell (i := 1) rfl
          have f0 := VX.out.free 0
          have f1 := VX.out.free 1
          obtain ⟨o0, k0⟩ := VX.out.set 0 (.int .i64 (fc + (f : Int)))
          obtain ⟨o1, k1⟩ := o0.set 1 (.int .i64 fr0)
          have GG := grownBy_trans k0 k1
          replace HO := Lib.hid (HO.out.kept GG (.inr (by simp [Value.ownBlock]; omega)))
          replace hb := hb.grown GG hb.size (fun q h => by cases h; omega)
          replace VX := Lib.hid o1
          clear o0 o1 k0 k1 GG
          go_upto_region 12 with fail
          clear x0 x1 f0 f1 d2
          generalize World.setCell (World.setCell wz _ _) _ _ = wz at *
          have x0 := VX.out.cell (i := 0) rfl
          have x1 := VX.out.cell (i := 1) rfl
          have hd : Below wz.heap.size wz (wz.alloc (.cells #[.int .i64 ((fc + (f : Int), fr0)).1, .int .i64 ((fc + (f : Int), fr0)).2] 73)) := (Below.refl _ _).alloc (Nat.le_refl _) _
          have KN := Lib.hid (new_sq wz ((fc + (f : Int), fr0)) 73)
          have hzz := hb.size
          replace hb := hb.trans (hd.mono hb.size)
          replace HO := Lib.hid (own_below HO.out hd)
          clear hd
          go_wp2_with (at_builtin; go_must (refine wpList_append_own _ rfl (.tmp 46) (.tmp 48) 65 rfl w6.heap.size 73 i0 _ 2 16 Tryz.underlying65 hi0 hi1 hi2 hi3 rfl (by decide) _ k (((fr.take k).map sq).flatMap Sq.enc) (by rfl) HO.out ⟨wz.heap.size, 0, none⟩ 1 1 (Sq.enc ((fc + (f : Int), fr0))) (by rfl) rfl KN.out (sq_one ((fc + (f : Int), fr0))) ?c1 ?c2 ?c3 ?_))
          case c1 => unfold maxLen; omega
          case c2 => omega
          case c3 => (first | omega | (simp only [World.size_alloc]; omega))
          intro v' w8 hown hgr hnil
          obtain ⟨g7, cap7, rfl, _⟩ := own_some hown (fun e => by have h := hnil; rw [e] at h; simp at h)
          have hb8 := hb.grown hgr hb.size (fun q e => by have := (HO.out.lt q e).1; omega)
          have HO8 : Hid (w8.ownsRow w6.heap.size 73 2 (.slice (some ⟨g7, 0, none⟩) (k + 1) cap7) (k + 1) (((fr.take (k + 1)).map sq).flatMap Sq.enc)) := Lib.hid (by
            rw [HTS.out, List.map_append, List.map_cons, List.map_nil, HSQ.out, snoc_flat Sq.enc]; first | exact hown | (rw [← List.map_take] at hown; exact hown))
          clear hown hgr hnil KN HO hb x0 x1
          go_wp2
          go_roundw
          case rel => exact ⟨k + 1, g7, cap7, by omega, by go_num, rfl, HO8, hb8⟩
          case measure => simp [intOf]; omega
      · obtain rfl : k = fr.length := by omega
        rw [List.take_length] at HO
        have HO9 := Lib.hid (own_mono HO.out hb1.size)
        have hb9 := hb1.trans (hb.mono hb1.size)
        clear HO hb
        go_wp2
        go_ret2
        exact ⟨gO, cap, rfl, HO9.out, hb9⟩
end Go.Proofs.YtjdcdhhbgijaoaaGreatDoor
