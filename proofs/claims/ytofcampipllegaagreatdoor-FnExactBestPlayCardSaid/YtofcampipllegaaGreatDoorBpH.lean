/- Contracts: the program's best play of a list. Go's tables of unicode and unicode/utf8 hold what is laid (CEnv); texts fit. -/
import Derived.Test.YtofcampipllegaaGreatDoorBpG
namespace Go.Proofs.YtofcampipllegaaGreatDoor
open Go.ChangeShapes Go.WideShapes Go.ChangeAt Go.RowKit Go.Sort

theorem infoMove : (Tryz.prog.info? 106).map (fun i => (i.zero, i.size, i.bytes)) = some (some (.agg #[.int .i64 0, .int .i64 0, .bool false, .string ⟨#[]⟩, .int .i64 0]), 5, 48) := by kernel_rfl
theorem mvEnc_len (m : Mv) : (mvEnc m).length = 5 := rfl
theorem new_move (w : World) (s : Int) (a : Ply) (t : TypeId) : ∀ j u, (mcells s a)[j]? = some u → (w.alloc (.cells #[.int .i64 a.row, .int .i64 a.col, .bool a.down, .string a.word, .int .i64 s] t)).cell? ((⟨w.heap.size, 0, none⟩ : Addr).add j) = some u := by
  intro j u hu
  rw [Go.Addr.add_lit, Nat.zero_add]
  exact (VarAt.new w t (mcells s a)).cell hu
theorem scored_take {x : Tls} {b : Brd} {ps : List Ply} {k : Nat} (h : k < ps.length) : ((scored x b ps).take (k + 1)).flatMap mvEnc = ((scored x b ps).take k).flatMap mvEnc ++ mcells (mvS (scored x b ps) k) ps[k] := by
  have h2 : k < (scored x b ps).length := by rw [scored_len]; exact h
  have e : (scored x b ps)[k] = (b.score ps[k] x, ps[k]) := by simp [scored]
  rw [List.take_succ_eq_append_getElem h2, snoc_flat mvEnc, scored_S h, e]
  rfl
def tcells (x : Tls) (q : TlA) : List Value := [.string x.letters, .slice q.values.a x.values.length q.values.c, .slice q.counts.a x.counts.length q.counts.c, .int .i64 x.blanks]
def bcells (b : Brd) : List Value := [.int .i64 b.size, .string b.premium, .string b.cells]
theorem tcells_at {w : World} {g : Nat} {x : Tls} {q : TlA} (h : TAt w g x q) : w.rangeAt g 0 (tcells x q) := by
  obtain ⟨c0, c1, c2, c3⟩ := h.1
  intro j v hv
  rw [Nat.zero_add]
  match j, hv with
  | 0, hv => cases hv; exact c0
  | 1, hv => cases hv; exact c1
  | 2, hv => cases hv; exact c2
  | 3, hv => cases hv; exact c3
theorem bcells_at {w : World} {g : Nat} {b : Brd} (h : BAt w g 0 b) : w.rangeAt g 0 (bcells b) := by
  obtain ⟨c0, c1, c2⟩ := h
  intro j v hv
  rw [Nat.zero_add]
  match j, hv with
  | 0, hv => cases hv; exact c0
  | 1, hv => cases hv; exact c1
  | 2, hv => cases hv; exact c2
def pzero : List Value := [.int .i64 0, .int .i64 0, .bool false, .string ⟨#[]⟩]
theorem size_ply (p : Ply) : (Tryz.prog.info? 61).map (·.size) = some (Ply.enc p).length := by kernel_rfl
theorem ply_one (p : Ply) : ∀ v ∈ Ply.enc p, v.oneCell' = true := by
  intro v hv
  simp only [Ply.enc, List.mem_cons, List.not_mem_nil, or_false] at hv
  rcases hv with rfl | rfl | rfl | rfl <;> rfl
set_option maxRecDepth 100000 in
set_option maxHeartbeats 8000000 in
theorem implBestPlay_any (x : Tls) (q : TlA) (b : Brd) (ps : List Ply) (a : Option Addr) (cap : Nat) (w : World) (ha : x.At q w) (hft : x.fit) (hxs : x.letters.size ≤ 1048576) (hf : b.fit) (hs : ∀ p ∈ ps, p.word.size ≤ 1048576) (hl : ps.length ≤ 1048576) (hE : CEnv w) (hm : SliceAt w 4 Ply.enc a ps) :
    Calls Tryz.prog 19 #[.agg #[.string x.letters, .slice q.values.a x.values.length q.values.c, .slice q.counts.a x.counts.length q.counts.c, .int .i64 x.blanks], .agg #[.int .i64 b.size, .string b.premium, .string b.cells], .slice a ps.length cap] w (BestPost x b ps w) := by
  obtain ⟨i0, hi0, hi1, hi2, hi3⟩ := info_parts infoMove
  obtain ⟨w2, hw2⟩ : ∃ w2, w2 = (w.alloc (.cells #[.string x.letters, .slice q.values.a x.values.length q.values.c, .slice q.counts.a x.counts.length q.counts.c, .int .i64 x.blanks] 33)).alloc (.cells #[.int .i64 b.size, .string b.premium, .string b.cells] 35) := ⟨_, rfl⟩
  have hb : Below w.heap.size w w2 := by rw [hw2]; exact ((Below.refl _ _).alloc (Nat.le_refl _) _).alloc (by simp) _
  have hz2 : w.heap.size + 2 ≤ w2.heap.size := by rw [hw2]; simp
  have HT : Hid (TAt w2 w.heap.size x q) := by
    rw [hw2]
    exact Lib.hid ((TAt.new w x q 33 ha).kept ((Below.refl _ _).alloc (Nat.le_refl _) _))
  have HG : Hid (BAt w2 (w.heap.size + 1) 0 b) := by
    rw [hw2]
    have := BAt.new (w.alloc (.cells #[.string x.letters, .slice q.values.a x.values.length q.values.c, .slice q.counts.a x.counts.length q.counts.c, .int .i64 x.blanks] 33)) b 35
    simp only [World.size_alloc] at this
    exact Lib.hid this
  have VT : Hid (VarAt w2 w.heap.size 33 (tcells x q)) := by
    rw [hw2]
    exact Lib.hid ((VarAt.new w 33 (tcells x q)).kept ((Below.refl _ _).alloc (Nat.le_refl _) _))
  have VB : Hid (VarAt w2 (w.heap.size + 1) 35 (bcells b)) := by
    rw [hw2]
    have := VarAt.new (w.alloc (.cells #[.string x.letters, .slice q.values.a x.values.length q.values.c, .slice q.counts.a x.counts.length q.counts.c, .int .i64 x.blanks] 33)) 35 (bcells b)
    simp only [World.size_alloc] at this
    exact Lib.hid this
  have HXA := Lib.hid ha
  have HW2 := Lib.hid hw2
  have HM := Lib.hid hm
  have HE := Lib.hid hE
  have HSB : Hid (∀ W, x.At q W → CEnv W → SliceAt W 4 Ply.enc a ps → Calls Tryz.prog 62 #[.agg #[.string x.letters, .slice q.values.a x.values.length q.values.c, .slice q.counts.a x.counts.length q.counts.c, .int .i64 x.blanks], .agg #[.int .i64 b.size, .string b.premium, .string b.cells], .slice a ps.length cap] W fun e w' => e = .returned (.bool (x.ok && (b.ok && allPlays b ps))) ∧ Below W.heap.size W w') := Lib.hid (fun W h h2 h3 => scorables_any x q b ps a cap W h hft hxs hf hs (by omega) h2 h3)
  clear hw2 ha hm hE hf hft hxs hs
  cases hsc : (x.ok && (b.ok && allPlays b ps)) with
  | false =>
    refine Calls.mono (R := fun e w' => e = .returned (.tuple #[.int .i64 0, .int .i64 0, .int .i64 1]) ∧ Below w.heap.size w w') ?_ (best_no hsc)
    rw [hsc] at HSB
    clear hsc
    go_enter Tryz.func19, Tryz.ntmps19
    go_upto_region 1 with fail
    rw [← HW2.out]
    clear HW2
    obtain ⟨c0, c1, c2, c3⟩ := HT.out.1
    obtain ⟨b0, b1, b2⟩ := HG.out
    go_wp2_with fail
    refine (HSB.out _ HT.out.2 (HE.out.kept hb) (HM.out.kept hb)).mono ?_
    rintro e w3 ⟨rfl, hd⟩
    replace hb := hb.trans (hd.mono hb.size)
    clear hd c0 c1 c2 c3 b0 b1 b2
    go_wp2
    try simp only [Exit.inBlock, Exit.then]
    refine bodyPost_ret (results_tmp3 rfl _ _ _) rfl ?_
    exact ⟨rfl, hb⟩
  | true =>
    rw [hsc] at HSB
    have e0' : (ps.length = 0) ∨ ¬ (ps.length = 0) := by omega
    rcases e0' with h0 | h0
    · refine Calls.mono (R := fun e w' => e = .returned (.tuple #[.int .i64 0, .int .i64 0, .int .i64 3]) ∧ Below w.heap.size w w') ?_ (best_none hsc h0)
      have H0 := Lib.hid h0
      clear hsc h0
      go_enter Tryz.func19, Tryz.ntmps19
      go_upto_region 1 with fail
      rw [← HW2.out]
      clear HW2
      obtain ⟨c0, c1, c2, c3⟩ := HT.out.1
      obtain ⟨b0, b1, b2⟩ := HG.out
      go_wp2_with fail
      refine (HSB.out _ HT.out.2 (HE.out.kept hb) (HM.out.kept hb)).mono ?_
      rintro e w3 ⟨rfl, hd⟩
      replace hb := hb.trans (hd.mono hb.size)
      clear hd c0 c1 c2 c3 b0 b1 b2
      have e0 : ((ps.length : Int) == 0) = true := by rw [H0.out]; rfl
      go_wp2
      try simp only [Exit.inBlock, Exit.then]
      refine bodyPost_ret (results_tmp3 rfl _ _ _) rfl ?_
      exact ⟨rfl, hb⟩
    · refine Calls.mono (R := fun e w' => e = .returned (.tuple #[.int .i64 (mvB (scored x b ps) (ps.length - 1) : Nat), .int .i64 (mvS (scored x b ps) (mvB (scored x b ps) (ps.length - 1))), .int .i64 0]) ∧ Below w.heap.size w w') ?_ (best_some hsc h0)
      have e0 : ((ps.length : Int) == 0) = false := by rw [beq_eq_false_iff_ne]; omega
      have HSC : Hid (∀ k (hk : k < ps.length) W, x.At q W → Calls Tryz.prog 63 #[.agg #[.string x.letters, .slice q.values.a x.values.length q.values.c, .slice q.counts.a x.counts.length q.counts.c, .int .i64 x.blanks], .agg #[.int .i64 b.size, .string b.premium, .string b.cells], .agg #[.int .i64 ps[k].row, .int .i64 ps[k].col, .bool ps[k].down, .string ps[k].word]] W fun e w' => e = .returned (.int .i64 (mvS (scored x b ps) k)) ∧ Below W.heap.size W w') := Lib.hid (fun k hk W h => by
        rw [Bool.and_eq_true, Bool.and_eq_true] at hsc
        have h1 := hsc.2.2
        unfold allPlays at h1
        obtain ⟨n, hpg⟩ := okPlay_good ((List.all_eq_true.1 h1) _ (List.getElem_mem hk))
        rw [scored_S hk]
        exact scorePlay_any x q b ps[k] n W h (Tls.good hsc.1) hpg)
      have HTK : Hid (∀ k (hk : k < ps.length), ((scored x b ps).take (k + 1)).flatMap mvEnc = ((scored x b ps).take k).flatMap mvEnc ++ mcells (mvS (scored x b ps) k) ps[k]) := Lib.hid (fun k hk => scored_take hk)
      have HLN := Lib.hid (scored_len x b ps)
      have H1C := Lib.hid mcells_one
      clear hsc
      generalize scored x b ps = ms at *
      go_enter Tryz.func19, Tryz.ntmps19
      go_upto_region 1 with fail
      rw [← HW2.out]
      clear HW2
      obtain ⟨c0, c1, c2, c3⟩ := HT.out.1
      obtain ⟨b0, b1, b2⟩ := HG.out
      go_wp2_with fail
      refine (HSB.out _ HT.out.2 (HE.out.kept hb) (HM.out.kept hb)).mono ?_
      rintro e w3 ⟨rfl, hd⟩
      have hz3 := Nat.le_trans hz2 hd.size
      clear c0 c1 c2 c3 b0 b1 b2 HSB hz2
      clear HT HG
      replace hb := hb.trans (hd.mono hb.size)
      replace VT := Lib.hid (VT.out.kept hd)
      replace VB := Lib.hid (VB.out.kept hd)
      clear hd
      have HO : Hid ((w3.alloc (.cells #[] 106)).ownsRow (w.heap.size + 2) 106 5 (.slice (some ⟨w3.heap.size, 0, none⟩) 0 0) 0 ((ms.take 0).flatMap mvEnc)) := Lib.hid (World.ownsRow_made (base := w.heap.size + 2) (e := 106) (size := 5) w3 #[] 0 hz3 (by unfold maxLen; omega) rfl)
      have hd : Below w3.heap.size w3 (w3.alloc (.cells #[] 106)) := (Below.refl _ _).alloc (Nat.le_refl _) _
      have hz4 := Nat.le_trans hz3 hd.size
      replace hb := hb.trans (hd.mono hb.size)
      replace VT := Lib.hid (VT.out.kept hd)
      replace VB := Lib.hid (VB.out.kept hd)
      clear hd
      clear hz3
      go_upto_region 7 with fail
      generalize w3.alloc (.cells #[] 106) = w4 at *
      generalize w3.heap.size = g0 at *
      go_loopw [9, 11, 24] (fun mv _ iv wr => ∃ k g cp : Nat, k ≤ ps.length ∧ iv = .int .i64 k ∧ mv = .slice (some ⟨g, 0, none⟩) k cp ∧ Hid (wr.ownsRow (w.heap.size + 2) 106 5 (.slice (some ⟨g, 0, none⟩) k cp) k ((ms.take k).flatMap mvEnc)) ∧ w.heap.size + 2 ≤ wr.heap.size ∧ Hid (VarAt wr w.heap.size 33 (tcells x q)) ∧ Hid (VarAt wr (w.heap.size + 1) 35 (bcells b)) ∧ Below w.heap.size w wr) (fun _ _ iv _ => ps.length - (intOf iv).toNat)
      case atStart => exact ⟨0, g0, 0, Nat.zero_le _, rfl, rfl, HO, hz4, VT, VB, hb⟩
      case round =>
        clear HO VT VB hb hz4
        obtain ⟨k, g, cp, hk, rfl, rfl, HO, hz, VT, VB, hb⟩ := hrel
        by_cases hk2 : k < ps.length
        · have HGL : Hid (w.heap.size + 2 ≤ g ∧ g < wr.heap.size) := Lib.hid (HO.out.lt g rfl)
          obtain ⟨b', o', rfl, c1⟩ := ply_cells HM.out hk2
          have c10 := cell_kept (c1 0 _ rfl) hb
          have c11 := cell_kept (c1 1 _ rfl) hb
          have c12 := cell_kept (c1 2 _ rfl) hb
          have c13 := cell_kept (c1 3 _ rfl) hb
          rw [Nat.add_zero] at c10
          have hk0 : (0 : Int) ≤ (k : Int) := by omega
          have hk3 : (k : Int) < (ps.length : Int) := by omega
          have HC := Lib.hid (HSC.out k hk2)
          have HTk := Lib.hid (HTK.out k hk2)
          clear c1 HTK HSC
          generalize ps[k] = pk at *
          generalize mvS ms k = sk at *
          have V6 := VarAt.new wr 61 pzero
          obtain ⟨o6, k6⟩ := V6.put (Ply.enc pk) rfl
          have tR := V6.there (n := (Ply.enc pk).length) rfl
          have hd : Below wr.heap.size wr ((wr.alloc (.cells pzero.toArray 61)).setCells wr.heap.size 0 (Ply.enc pk)) := ((Below.refl _ _).alloc (Nat.le_refl _) _).grown k6 (by simp) (fun q h => by cases h; exact Nat.le_refl _)
          have VP := Lib.hid o6
          clear V6 o6 k6
          go_upto_region 8 with fail
          go_upto_region 9 with (refine wpList_store_mid rfl 61 _ _ rfl wr.heap.size 0 (Ply.enc pk).toArray rfl rfl tR (size_ply pk) (all_oneCell_toArray (ply_one pk)) ?_)
          clear tR c10 c11 c12 c13
          change Code.wp _ _ _ _ ((wr.alloc (.cells pzero.toArray 61)).setCells wr.heap.size 0 (Ply.enc pk))
          have hz6 := Nat.le_trans hz hd.size
          generalize (wr.alloc (.cells pzero.toArray 61)).setCells wr.heap.size 0 (Ply.enc pk) = w6 at *
          generalize hx1 : wr.heap.size = x1 at *
          subst hx1
          replace hb := hb.trans (hd.mono hb.size)
          replace HO := Lib.hid (own_below HO.out hd)
          replace VT := Lib.hid (VT.out.kept hd)
          replace VB := Lib.hid (VB.out.kept hd)
          clear hd
          clear hz
          have hd : Below w6.heap.size w6 w6.drew := (Below.refl _ _).drew
          have hz7 := Nat.le_trans hz6 hd.size
          replace hb := hb.trans (hd.mono hb.size)
          replace HO := Lib.hid (own_below HO.out hd)
          replace VT := Lib.hid (VT.out.kept hd)
          replace VB := Lib.hid (VB.out.kept hd)
          replace VP := Lib.hid (VP.out.kept hd)
          clear hd
          clear hz6
          have rP := VP.out.range
          have rT : w6.drew.rangeAt w.heap.size 0 (tcells x q) := VT.out.range
          have rB : w6.drew.rangeAt (w.heap.size + 1) 0 (bcells b) := VB.out.range
          refine wp_region_held_drew (S := fun w' => w'.rangeAt wr.heap.size 0 (Ply.enc pk) ∧ w'.rangeAt w.heap.size 0 (tcells x q) ∧ w'.rangeAt (w.heap.size + 1) 0 (bcells b)) (by kernel_rfl) ⟨rP, rT, rB⟩ (fun hHeld => ?_)
          generalize w6.drew = wd at *
          clear rP rT rB
          refine wpAnyH_take (i := 0) (oi := _) (v := .slice (some ⟨g, 0, none⟩) k cp) rfl (by kernel_rfl) (by kernel_rfl) (by kernel_rfl) (fun _ _ _ h => h) (Or.inl ⟨by rfl, fun w' _ => by go_simp⟩) (by assumption) ?_
          simp only [Act.put, List.setIfInBounds_toArray]
          refine wpAnyH_take (i := 1) (oi := _) (v := _) rfl (by kernel_rfl) (by kernel_rfl) (by kernel_rfl) (fun _ _ _ h => h) (yieldsIf_load_mid (by rfl) 61 _ rfl wr.heap.size 0 rfl [.int .i64 pk.row, .int .i64 pk.col, .bool pk.down, .string pk.word] _ (fun _ h => h.1) Tryz.underlying61 rfl (size_ply pk)) (by assumption) ?_
          simp only [Act.put]
          refine wpAnyH_take (i := 2) (oi := _) (v := _) rfl (by kernel_rfl) (by kernel_rfl) (by kernel_rfl) (fun _ _ _ h => h) (yieldsIf_load_mid (by rfl) 33 _ rfl w.heap.size 0 rfl (tcells x q) _ (fun _ h => h.2.1) Tryz.underlying33 rfl (by kernel_rfl)) (by assumption) ?_
          simp only [Act.put]
          refine wpAnyH_take (i := 3) (oi := _) (v := _) rfl (by kernel_rfl) (by kernel_rfl) (by kernel_rfl) (fun _ _ _ h => h) (yieldsIf_load_mid (by rfl) 35 _ rfl (w.heap.size + 1) 0 rfl (bcells b) _ (fun _ h => h.2.2) Tryz.underlying35 rfl (by kernel_rfl)) (by assumption) ?_
          simp only [Act.put]
          refine wpAnyH_take (i := 4) (oi := _) (v := _) rfl (by kernel_rfl) (by kernel_rfl) (by kernel_rfl) (fun _ _ _ h => h) (yieldsIf_load_mid (by rfl) 61 _ rfl wr.heap.size 0 rfl [.int .i64 pk.row, .int .i64 pk.col, .bool pk.down, .string pk.word] _ (fun _ h => h.1) Tryz.underlying61 rfl (size_ply pk)) (by assumption) ?_
          simp only [Act.put]
          refine wpAnyH_ready (rs := [5]) (by kernel_rfl) (by simp) ?_
          refine AllReadyH.cons (o := _) rfl (fun K hK => ?_) AllReadyH.nil
          go_simp
          refine (HC.out _ (HXA.out.kept hb)).mono ?_
          rintro e w7 ⟨rfl, hd⟩
          have hz8 := Nat.le_trans hz7 hd.size
          have hHeld3 : w7.rangeAt wr.heap.size 0 (Ply.enc pk) ∧ w7.rangeAt w.heap.size 0 (tcells x q) ∧ w7.rangeAt (w.heap.size + 1) 0 (bcells b) := ⟨fun j v hv => cell_kept (hHeld.1 j v hv) hd, fun j v hv => cell_kept (hHeld.2.1 j v hv) hd, fun j v hv => cell_kept (hHeld.2.2 j v hv) hd⟩
          replace hb := hb.trans (hd.mono hb.size)
          replace HO := Lib.hid (own_below HO.out hd)
          replace VT := Lib.hid (VT.out.kept hd)
          replace VB := Lib.hid (VB.out.kept hd)
          replace VP := Lib.hid (VP.out.kept hd)
          clear hd
          clear hz7 HC
          go_wp2_with fail
          refine hK.out _ _ hHeld3 (fun _ => ?_)
          clear hK K hHeld
          refine wpAnyH_ready (rs := [6]) (by kernel_rfl) (by simp) ?_
          refine AllReadyH.cons (o := _) rfl (fun K hK => ?_) AllReadyH.nil
          go_simp
          refine hK.out _ _ hHeld3 (fun _ => ?_)
          clear hK K
          refine wpAnyH_ready (rs := [7]) (by kernel_rfl) (by simp) ?_
          refine AllReadyH.cons (o := _) rfl (fun K hK => ?_) AllReadyH.nil
          go_simp
          have KN := Lib.hid (new_move w7 sk pk 106)
          have hd : Below w7.heap.size w7 (w7.alloc (.cells #[.int .i64 pk.row, .int .i64 pk.col, .bool pk.down, .string pk.word, .int .i64 sk] 106)) := (Below.refl _ _).alloc (Nat.le_refl _) _
          have hHeld4 : (w7.alloc (.cells #[.int .i64 pk.row, .int .i64 pk.col, .bool pk.down, .string pk.word, .int .i64 sk] 106)).rangeAt wr.heap.size 0 (Ply.enc pk) ∧ (w7.alloc (.cells #[.int .i64 pk.row, .int .i64 pk.col, .bool pk.down, .string pk.word, .int .i64 sk] 106)).rangeAt w.heap.size 0 (tcells x q) ∧ (w7.alloc (.cells #[.int .i64 pk.row, .int .i64 pk.col, .bool pk.down, .string pk.word, .int .i64 sk] 106)).rangeAt (w.heap.size + 1) 0 (bcells b) := ⟨fun j v hv => cell_kept (hHeld3.1 j v hv) hd, fun j v hv => cell_kept (hHeld3.2.1 j v hv) hd, fun j v hv => cell_kept (hHeld3.2.2 j v hv) hd⟩
          replace hb := hb.trans (hd.mono hb.size)
          replace HO := Lib.hid (own_below HO.out hd)
          replace VT := Lib.hid (VT.out.kept hd)
          replace VB := Lib.hid (VB.out.kept hd)
          replace VP := Lib.hid (VP.out.kept hd)
          clear hd
          go_wp2_with fail
          refine hK.out _ _ hHeld4 (fun _ => ?_)
          clear hK K
          refine wpAnyH_ready (rs := [8]) (by kernel_rfl) (by simp) ?_
          refine AllReadyH.cons (o := _) rfl (fun K hK => ?_) AllReadyH.nil
          rw [if_pos (by rfl)]
          refine wp_append_lies _ (.tmp 28) (.tmp 35) 103 rfl (w.heap.size + 2) 106 i0 _ 5 48 Tryz.underlying103 hi0 hi1 hi2 hi3 rfl (by decide) _ k ((ms.take k).flatMap mvEnc) (by rfl) HO.out ⟨w7.heap.size, 0, none⟩ 1 1 (mcells sk pk) (by rfl) rfl KN.out (mcells_one sk pk) (by decide) ?c1 ?c2 ?c3 _ rfl ?_
          case c1 => unfold maxLen; omega
          case c2 => omega
          case c3 => (first | omega | (simp only [World.size_alloc]; omega))
          intro g7 cap7 w8 hown hgr hwh hlt7
          obtain ⟨hgge, hglt⟩ := HGL.out
          have hz9 : w.heap.size + 2 ≤ w8.heap.size := by have := hown.lt g7 rfl; omega
          have oP := VP.out.grown hgr (by intro e; cases e; exact absurd hglt (Nat.lt_irrefl _))
          have oT := VT.out.grown hgr (by intro e; have e2 : w.heap.size = g := Option.some.inj e; omega)
          have oB := VB.out.grown hgr (by intro e; have e2 : w.heap.size + 1 = g := Option.some.inj e; omega)
          have hb8 := hb.grown hgr hb.size (fun q h => by have e2 : g = q := Option.some.inj h; omega)
          have VT8 := Lib.hid oT
          have VB8 := Lib.hid oB
          have hHeld5 : w8.rangeAt wr.heap.size 0 (Ply.enc pk) ∧ w8.rangeAt w.heap.size 0 (tcells x q) ∧ w8.rangeAt (w.heap.size + 1) 0 (bcells b) := ⟨oP.range, oT.range, oB.range⟩
          clear HO VP VT VB hb oP oT oB hgr KN hHeld4 hHeld3 hz8
          refine hK.out _ _ hHeld5 (fun _ => ?_)
          clear hK K
          refine wpAnyH_ready (rs := [9]) (by kernel_rfl) (by simp) ?_
          refine AllReadyH.cons (o := _) rfl (fun K hK => ?_) AllReadyH.nil
          go_simp
          refine hK.out _ _ hHeld5 (fun _ => ?_)
          clear hK K
          refine wpAnyH_done (by kernel_rfl) ?_ _
          clear hHeld5
          go_wp2
          go_roundw
          case rel => exact ⟨k + 1, g7, cap7, hk2, by go_num, by go_num, by rw [HTk.out]; exact Lib.hid hown, hz9, VT8, VB8, hb8⟩
          case measure => simp [intOf]; omega
        · obtain rfl : k = ps.length := by omega
          have hms : SliceAt wr 5 mvEnc (some ⟨g, 0, none⟩) ms := own_slice mvEnc_len (own_as HO.out (by rw [List.take_of_length_le (by rw [HLN.out]; exact Nat.le_refl _)])) HLN.out.symm
          have HMS := Lib.hid hms
          have HMF : Hid (∀ W, SliceAt W 5 mvEnc (some ⟨g, 0, none⟩) ms → Calls Tryz.prog 64 #[.slice (some ⟨g, 0, none⟩) ps.length cp, .func (.func 65) #[] #[]] W fun e w' => e = .returned (.agg (mcells (mvS ms (mvB ms (ps.length - 1))) (mvP ms (mvB ms (ps.length - 1)))).toArray) ∧ Below W.heap.size W w') := Lib.hid (fun W h => by
            have h2 := maxFunc_any ms (some ⟨g, 0, none⟩) cp W h (by rw [HLN.out]; omega) (by rw [HLN.out]; omega)
            rw [HLN.out] at h2
            exact h2)
          have HIX : Hid (∀ W, SliceAt W 5 mvEnc (some ⟨g, 0, none⟩) ms → Calls Tryz.prog 67 #[.slice (some ⟨g, 0, none⟩) ps.length cp, .agg #[.int .i64 (mvP ms (mvB ms (ps.length - 1))).row, .int .i64 (mvP ms (mvB ms (ps.length - 1))).col, .bool (mvP ms (mvB ms (ps.length - 1))).down, .string (mvP ms (mvB ms (ps.length - 1))).word, .int .i64 (mvS ms (mvB ms (ps.length - 1)))]] W fun e w' => e = .returned (.int .i64 (mvB ms (ps.length - 1) : Nat)) ∧ Below W.heap.size W w') := Lib.hid (fun W h => by
            have hle := mvB_le ms (ps.length - 1)
            have h2 := indexMove_any ms (some ⟨g, 0, none⟩) cp (mvS ms (mvB ms (ps.length - 1))) (mvP ms (mvB ms (ps.length - 1))) (mvB ms (ps.length - 1)) W h (by rw [HLN.out]; omega) (by rw [HLN.out]; omega) rfl rfl (fun j hj => bestK_new (mvS ms) (mvP ms) hj)
            rw [HLN.out] at h2
            exact h2)
          clear HSC HTK HLN HO hms hk hk2 VT VB hz
          generalize hB : mvB ms (ps.length - 1) = B at *
          generalize hS : mvS ms B = sb at *
          generalize mvP ms B = pb at *
          have HBQ := Lib.hid hB
          have HSQ := Lib.hid hS
          clear hB hS
          go_upto_region 11 with fail
          go_wp2_with fail
          refine (HMF.out _ HMS.out).mono ?_
          rintro e w9 ⟨rfl, hd⟩
          replace hb := hb.trans (hd.mono hb.size)
          replace HMS := Lib.hid (HMS.out.kept hd)
          clear hd
          clear HMF
          have V6 := VarAt.new w9 106 mzero
          obtain ⟨o6, k6⟩ := V6.put (mcells sb pb) rfl
          have tR := V6.there (n := (mcells sb pb).length) rfl
          have hd : Below w9.heap.size w9 ((w9.alloc (.cells mzero.toArray 106)).setCells w9.heap.size 0 (mcells sb pb)) := ((Below.refl _ _).alloc (Nat.le_refl _) _).grown k6 (by simp) (fun q h => by cases h; exact Nat.le_refl _)
          clear V6 k6
          go_upto_region 12 with (refine wpList_store_mid rfl 106 _ _ rfl w9.heap.size 0 (mcells sb pb).toArray rfl rfl tR (size_move sb pb) (all_oneCell_toArray (mcells_one sb pb)) ?_)
          clear tR
          change Code.wp _ _ _ _ ((w9.alloc (.cells mzero.toArray 106)).setCells w9.heap.size 0 (mcells sb pb))
          replace hb := hb.trans (hd.mono hb.size)
          replace HMS := Lib.hid (HMS.out.kept hd)
          clear hd
          generalize (w9.alloc (.cells mzero.toArray 106)).setCells w9.heap.size 0 (mcells sb pb) = w10 at *
          generalize w9.heap.size = x2 at *
          have a0 := cell_regrown (o6.cell (i := 0) (v := .int .i64 pb.row) rfl)
          have a1 := cell_regrown (o6.cell (i := 1) (v := .int .i64 pb.col) rfl)
          have a2 := cell_regrown (o6.cell (i := 2) (v := .bool pb.down) rfl)
          have a3 := cell_regrown (o6.cell (i := 3) (v := .string pb.word) rfl)
          have a4 := cell_regrown (o6.cell (i := 4) (v := .int .i64 sb) rfl)
          clear o6
          simp only [Act.put]
          refine wp_region_quiet_below (by kernel_rfl) (by kernel_rfl) ?_
          repeat (go_big_quiet_step ((first | (go_at_call 67; exact Calls.regrown_of (HIX.out _ (HMS.out.kept (below_regrown _ _ _)))))))
          refine wpQuiet_nil ?_
          intro wx hw'
          obtain ⟨⟨dq, oq⟩, hw''⟩ := hw'
          have hd := below_regrown w10 dq oq
          rw [← hw''] at hd
          clear hw''
          replace hb := hb.trans (hd.mono hb.size)
          clear hd a0 a1 a2 a3 a4 HIX HMS
          go_wp2
          try simp only [Exit.inBlock, Exit.then]
          refine bodyPost_ret (results_tmp3 rfl _ _ _) rfl ?_
          exact ⟨by rw [HBQ.out, HSQ.out]; rfl, hb⟩
end Go.Proofs.YtofcampipllegaaGreatDoor
