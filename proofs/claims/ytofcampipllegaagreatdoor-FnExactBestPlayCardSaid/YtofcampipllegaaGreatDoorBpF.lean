/- Contracts: the reference's best play of a list. No condition but that lengths fit an int. -/
import Derived.Test.YtofcampipllegaaGreatDoorBpE
import Derived.Test.YtofcampipllegaaGreatDoorScE
namespace Go.Proofs.YtofcampipllegaaGreatDoor
open Go.ChangeShapes Go.WideShapes Go.ChangeAt Go.RowKit Go.Sort

theorem results_tmp3 {fn : Func} {t u v : Tmp} (h : fn.results = #[.tmp t, .tmp u, .tmp v]) (tmps : Array Value) (P : Program) (w : World) :
    (results fn tmps).run P w = .ok (.tuple #[tmps.getD t undef, tmps.getD u undef, tmps.getD v undef]) w := by simp [results, h]
/-- the scored plays of a list -/
def scored (x : Tls) (b : Brd) (ps : List Ply) : List Mv := ps.map fun p => (b.score p x, p)
theorem scored_len (x : Tls) (b : Brd) (ps : List Ply) : (scored x b ps).length = ps.length := by unfold scored; rw [List.length_map]
theorem scored_S {x : Tls} {b : Brd} {ps : List Ply} {k : Nat} (h : k < ps.length) : mvS (scored x b ps) k = b.score ps[k] x := by
  unfold mvS scored
  rw [List.getD_eq_getElem?_getD, List.getElem?_map, List.getElem?_eq_getElem h]
  rfl
theorem scored_P {x : Tls} {b : Brd} {ps : List Ply} {k : Nat} (h : k < ps.length) : mvP (scored x b ps) k = ps[k] := by
  unfold mvP scored
  rw [List.getD_eq_getElem?_getD, List.getElem?_map, List.getElem?_eq_getElem h]
  rfl
/-- the best play of a list: where it lies, its score, a code -/
def bestR (x : Tls) (b : Brd) (ps : List Ply) : Int × Int × Int :=
  if (x.ok && (b.ok && allPlays b ps)) = false then (0, 0, 1) else if ps.length = 0 then (0, 0, 3) else ((mvB (scored x b ps) (ps.length - 1) : Nat), mvS (scored x b ps) (mvB (scored x b ps) (ps.length - 1)), 0)
def BestPost (x : Tls) (b : Brd) (ps : List Ply) (w : World) (e : Ending) (w' : World) : Prop := e = .returned (.tuple #[.int .i64 (bestR x b ps).1, .int .i64 (bestR x b ps).2.1, .int .i64 (bestR x b ps).2.2]) ∧ Below w.heap.size w w'
theorem best_no {x : Tls} {b : Brd} {ps : List Ply} {w : World} (h : (x.ok && (b.ok && allPlays b ps)) = false) : ∀ e w', (e = .returned (.tuple #[.int .i64 0, .int .i64 0, .int .i64 1]) ∧ Below w.heap.size w w') → BestPost x b ps w e w' := by
  intro e w' hh
  unfold BestPost bestR
  rw [if_pos h]
  exact hh
theorem best_none {x : Tls} {b : Brd} {ps : List Ply} {w : World} (h : (x.ok && (b.ok && allPlays b ps)) = true) (h0 : ps.length = 0) : ∀ e w', (e = .returned (.tuple #[.int .i64 0, .int .i64 0, .int .i64 3]) ∧ Below w.heap.size w w') → BestPost x b ps w e w' := by
  intro e w' hh
  unfold BestPost bestR
  rw [if_neg (by rw [h]; decide), if_pos h0]
  exact hh
theorem best_some {x : Tls} {b : Brd} {ps : List Ply} {w : World} (h : (x.ok && (b.ok && allPlays b ps)) = true) (h0 : ¬ ps.length = 0) : ∀ e w', (e = .returned (.tuple #[.int .i64 (mvB (scored x b ps) (ps.length - 1) : Nat), .int .i64 (mvS (scored x b ps) (mvB (scored x b ps) (ps.length - 1))), .int .i64 0]) ∧ Below w.heap.size w w') → BestPost x b ps w e w' := by
  intro e w' hh
  unfold BestPost bestR
  rw [if_neg (by rw [h]; decide), if_neg h0]
  exact hh
set_option maxRecDepth 100000 in
set_option maxHeartbeats 8000000 in
theorem specBestPlay_any (x : Tls) (q : TlA) (b : Brd) (ps : List Ply) (a : Option Addr) (cap : Nat) (w : World) (ha : x.At q w) (hft : x.fit) (hf : b.fit) (hps : ∀ p ∈ ps, p.fit) (hl : ps.length ≤ 9223372036854775807) (hm : SliceAt w 4 Ply.enc a ps) :
    Calls Tryz.prog 15 #[.agg #[.string x.letters, .slice q.values.a x.values.length q.values.c, .slice q.counts.a x.counts.length q.counts.c, .int .i64 x.blanks], .agg #[.int .i64 b.size, .string b.premium, .string b.cells], .slice a ps.length cap] w (BestPost x b ps w) := by
  obtain ⟨w2, hw2⟩ : ∃ w2, w2 = (w.alloc (.cells #[.string x.letters, .slice q.values.a x.values.length q.values.c, .slice q.counts.a x.counts.length q.counts.c, .int .i64 x.blanks] 33)).alloc (.cells #[.int .i64 b.size, .string b.premium, .string b.cells] 35) := ⟨_, rfl⟩
  have hb : Below w.heap.size w w2 := by rw [hw2]; exact ((Below.refl _ _).alloc (Nat.le_refl _) _).alloc (by simp) _
  have HT : Hid (TAt w2 w.heap.size x q) := by
    rw [hw2]
    exact Lib.hid ((TAt.new w x q 33 ha).kept ((Below.refl _ _).alloc (Nat.le_refl _) _))
  have HG : Hid (BAt w2 (w.heap.size + 1) 0 b) := by
    rw [hw2]
    have := BAt.new (w.alloc (.cells #[.string x.letters, .slice q.values.a x.values.length q.values.c, .slice q.counts.a x.counts.length q.counts.c, .int .i64 x.blanks] 33)) b 35
    simp only [World.size_alloc] at this
    exact Lib.hid this
  have HW2 := Lib.hid hw2
  have HM := Lib.hid hm
  have HOK : Hid (∀ W, TAt W w.heap.size x q → Calls Tryz.prog 55 #[.pointer (some ⟨w.heap.size, 0, none⟩)] W fun e w' => e = .returned (.bool x.ok) ∧ Drew W w') := Lib.hid (fun W h => l02Ok_any x q _ W h hft)
  have HBK : Hid (∀ W, BAt W (w.heap.size + 1) 0 b → Calls Tryz.prog 56 #[.pointer (some ⟨w.heap.size + 1, 0, none⟩)] W fun e w' => e = .returned (.bool b.ok) ∧ Drew W w') := Lib.hid (fun W h => l11Ok_any b _ 0 W h hf)
  have HPK : Hid (∀ k (hk : k < ps.length) W, BAt W (w.heap.size + 1) 0 b → Calls Tryz.prog 57 #[.pointer (some ⟨w.heap.size + 1, 0, none⟩), .agg #[.int .i64 ps[k].row, .int .i64 ps[k].col, .bool ps[k].down, .string ps[k].word]] W fun e w' => e = .returned (.bool (b.okPlay ps[k])) ∧ Below W.heap.size W w') := Lib.hid (fun k hk W h => l12Ok_any b ps[k] _ 0 W h hf (hps _ (List.getElem_mem hk)))
  have HN := Lib.hid (fun k (hk : k < ps.length) h => plays_no (b := b) (ps := ps) hk h)
  have HY := Lib.hid (fun h => plays_yes (b := b) (ps := ps) h)
  clear hw2 ha hm hps hft hf
  cases hlx : x.ok with
  | false =>
    refine Calls.mono (R := fun e w' => e = .returned (.tuple #[.int .i64 0, .int .i64 0, .int .i64 1]) ∧ Below w.heap.size w w') ?_ (best_no (by rw [hlx]; rfl))
    rw [hlx] at HOK
    clear hlx
    go_enter Tryz.func15, Tryz.ntmps15
    go_upto_region 1 with fail
    rw [← HW2.out]
    clear HW2
    go_wp2_with fail
    refine (HOK.out _ HT.out).mono ?_
    rintro e w3 ⟨rfl, hdq⟩
    have hd := hdq.bels
    clear hdq
    replace hb := hb.trans (hd.mono hb.size)
    replace HT := Lib.hid (HT.out.kept hd)
    replace HG := Lib.hid (HG.out.kept hd)
    clear hd
    go_wp2
    try simp only [Exit.inBlock, Exit.then]
    refine bodyPost_ret (results_tmp3 rfl _ _ _) rfl ?_
    exact ⟨rfl, hb⟩
  | true =>
    cases hbo : b.ok with
    | false =>
      refine Calls.mono (R := fun e w' => e = .returned (.tuple #[.int .i64 0, .int .i64 0, .int .i64 1]) ∧ Below w.heap.size w w') ?_ (best_no (by rw [hbo]; simp))
      rw [hlx] at HOK
      rw [hbo] at HBK
      clear hlx hbo
      go_enter Tryz.func15, Tryz.ntmps15
      go_upto_region 1 with fail
      rw [← HW2.out]
      clear HW2
      go_wp2_with fail
      refine (HOK.out _ HT.out).mono ?_
      rintro e w3 ⟨rfl, hdq⟩
      have hd := hdq.bels
      clear hdq
      replace hb := hb.trans (hd.mono hb.size)
      replace HT := Lib.hid (HT.out.kept hd)
      replace HG := Lib.hid (HG.out.kept hd)
      clear hd
      go_wp2_with fail
      refine (HBK.out _ HG.out).mono ?_
      rintro e w4 ⟨rfl, hdq⟩
      have hd := hdq.bels
      clear hdq
      replace hb := hb.trans (hd.mono hb.size)
      clear hd
      go_wp2
      try simp only [Exit.inBlock, Exit.then]
      refine bodyPost_ret (results_tmp3 rfl _ _ _) rfl ?_
      exact ⟨rfl, hb⟩
    | true =>
      rw [hlx] at HOK
      rw [hbo] at HBK
      cases hal : allPlays b ps with
      | false =>
        refine Calls.mono (R := fun e w' => e = .returned (.tuple #[.int .i64 0, .int .i64 0, .int .i64 1]) ∧ Below w.heap.size w w') ?_ (best_no (by rw [hal]; simp))
        have HAL := Lib.hid hal
        clear hlx hbo hal HN
        go_enter Tryz.func15, Tryz.ntmps15
        go_upto_region 1 with fail
        rw [← HW2.out]
        clear HW2
        go_wp2_with fail
        refine (HOK.out _ HT.out).mono ?_
        rintro e w3 ⟨rfl, hdq⟩
        have hd := hdq.bels
        clear hdq
        replace hb := hb.trans (hd.mono hb.size)
        replace HT := Lib.hid (HT.out.kept hd)
        replace HG := Lib.hid (HG.out.kept hd)
        clear hd
        go_wp2_with fail
        refine (HBK.out _ HG.out).mono ?_
        rintro e w4 ⟨rfl, hdq⟩
        have hd := hdq.bels
        clear hdq
        replace hb := hb.trans (hd.mono hb.size)
        replace HT := Lib.hid (HT.out.kept hd)
        replace HG := Lib.hid (HG.out.kept hd)
        clear hd
        go_upto_region 4 with fail
        go_loopw [9] (fun iv wr => ∃ k : Nat, k ≤ ps.length ∧ iv = .int .i64 k ∧ Hid (∀ j (h : j < ps.length), j < k → b.okPlay ps[j] = true) ∧ Hid (BAt wr (w.heap.size + 1) 0 b) ∧ Below w.heap.size w wr) (fun iv _ => ps.length - (intOf iv).toNat)
        case atStart => exact ⟨0, Nat.zero_le _, rfl, Lib.hid (fun j _ h => absurd h (Nat.not_lt_zero _)), HG, hb⟩
        case round =>
          clear HG hb HT
          obtain ⟨k, hk, rfl, HP, HG, hb⟩ := hrel
          by_cases hk2 : k < ps.length
          · obtain ⟨b', o', rfl, c1⟩ := ply_cells HM.out hk2
            have c10 := cell_kept (c1 0 _ rfl) hb
            have c11 := cell_kept (c1 1 _ rfl) hb
            have c12 := cell_kept (c1 2 _ rfl) hb
            have c13 := cell_kept (c1 3 _ rfl) hb
            rw [Nat.add_zero] at c10
            have hk0 : (0 : Int) ≤ (k : Int) := by omega
            have hk3 : (k : Int) < (ps.length : Int) := by omega
            have HC := Lib.hid (HPK.out k hk2)
            have HPk := Lib.hid (fun h : b.okPlay ps[k] = true => (fun j (hj : j < ps.length) (hjk : j < k + 1) => (by
              by_cases e : j = k
              · subst e; exact h
              · exact HP.out j hj (by omega) : b.okPlay ps[j] = true)))
            clear c1 HP
            generalize ps[k] = pk at *
            generalize hv : b.okPlay pk = v at *
            clear hv
            go_wp2_with fail
            refine (HC.out _ HG.out).mono ?_
            rintro e w5 ⟨rfl, hd⟩
            replace hb := hb.trans (hd.mono hb.size)
            replace HG := Lib.hid (HG.out.kept hd)
            clear hd
            clear c10 c11 c12 c13 HC
            cases v with
            | false =>
              go_wp2
              try simp only [Exit.inBlock, Exit.then]
              refine bodyPost_ret (results_tmp3 rfl _ _ _) rfl ?_
              exact ⟨rfl, hb⟩
            | true =>
              go_wp2
              go_roundw
              case rel => exact ⟨k + 1, by omega, by go_num, Lib.hid (HPk.out (by trivial)), HG, hb⟩
              case measure => simp [intOf]; omega
          · exfalso
            have h := HY.out (fun j hj => HP.out j hj (by omega))
            rw [HAL.out] at h
            cases h
      | true =>
        have HPK2 : Hid (∀ k (hk : k < ps.length), b.okPlay ps[k] = true) := Lib.hid (fun k hk => by
          have h := hal
          unfold allPlays at h
          exact (List.all_eq_true.1 h) _ (List.getElem_mem hk))
        have HX := Lib.hid (Tls.good hlx)
        have HSC : Hid (∀ k (hk : k < ps.length) W, TAt W w.heap.size x q → BAt W (w.heap.size + 1) 0 b → Calls Tryz.prog 58 #[.pointer (some ⟨w.heap.size, 0, none⟩), .pointer (some ⟨w.heap.size + 1, 0, none⟩), .agg #[.int .i64 ps[k].row, .int .i64 ps[k].col, .bool ps[k].down, .string ps[k].word]] W fun e w' => e = .returned (.int .i64 (mvS (scored x b ps) k)) ∧ Below W.heap.size W w') := Lib.hid (fun k hk W h h2 => by
          obtain ⟨n, hpg⟩ := okPlay_good (HPK2.out k hk)
          rw [scored_S hk]
          exact l13Score_any x q _ b ps[k] n _ 0 W h HX.out h2 hpg)
        have HST : Hid (∀ k (h : k + 1 < ps.length) bk (hbk : bk < ps.length), mvB (scored x b ps) k = bk → mvB (scored x b ps) (k + 1) = if mvCmp (mvS (scored x b ps) (k + 1)) (mvS (scored x b ps) bk) ps[k + 1] ps[bk] < 0 then k + 1 else bk) := Lib.hid (fun k h bk hbk e => by
          rw [mvB_step, e, scored_P h, scored_P hbk])
        have HLE := Lib.hid (mvB_le (scored x b ps))
        by_cases h0 : ps.length = 0
        · refine Calls.mono (R := fun e w' => e = .returned (.tuple #[.int .i64 0, .int .i64 0, .int .i64 3]) ∧ Below w.heap.size w w') ?_ (best_none (by rw [hlx, hbo, hal]; rfl) h0)
          have e0 : ((ps.length : Int) == 0) = true := by rw [h0]; rfl
          clear hal HN HY hlx hbo HSC HST HLE
          go_enter Tryz.func15, Tryz.ntmps15
          go_upto_region 1 with fail
          rw [← HW2.out]
          clear HW2
          go_wp2_with fail
          refine (HOK.out _ HT.out).mono ?_
          rintro e w3 ⟨rfl, hdq⟩
          have hd := hdq.bels
          clear hdq
          replace hb := hb.trans (hd.mono hb.size)
          replace HT := Lib.hid (HT.out.kept hd)
          replace HG := Lib.hid (HG.out.kept hd)
          clear hd
          go_wp2_with fail
          refine (HBK.out _ HG.out).mono ?_
          rintro e w4 ⟨rfl, hdq⟩
          have hd := hdq.bels
          clear hdq
          replace hb := hb.trans (hd.mono hb.size)
          replace HT := Lib.hid (HT.out.kept hd)
          replace HG := Lib.hid (HG.out.kept hd)
          clear hd
          go_upto_region 4 with fail
          go_loopw [9] (fun iv wr => iv = .int .i64 0 ∧ Below w.heap.size w wr) (fun iv _ => ps.length - (intOf iv).toNat)
          case atStart => exact ⟨rfl, hb⟩
          case round =>
            clear hb HG HT
            obtain ⟨rfl, hb⟩ := hrel
            have h1 : ¬ (0 : Int) < (ps.length : Int) := by omega
            go_wp2
            try simp only [Exit.inBlock, Exit.then]
            refine bodyPost_ret (results_tmp3 rfl _ _ _) rfl ?_
            exact ⟨rfl, hb⟩
        · refine Calls.mono (R := fun e w' => e = .returned (.tuple #[.int .i64 (mvB (scored x b ps) (ps.length - 1) : Nat), .int .i64 (mvS (scored x b ps) (mvB (scored x b ps) (ps.length - 1))), .int .i64 0]) ∧ Below w.heap.size w w') ?_ (best_some (by rw [hlx, hbo, hal]; rfl) h0)
          have e0 : ((ps.length : Int) == 0) = false := by rw [beq_eq_false_iff_ne]; omega
          have HB0 : Hid (mvB (scored x b ps) 0 = 0) := Lib.hid rfl
          clear hal HN HY hlx hbo
          generalize scored x b ps = ms at *
          go_enter Tryz.func15, Tryz.ntmps15
          go_upto_region 1 with fail
          rw [← HW2.out]
          clear HW2
          go_wp2_with fail
          refine (HOK.out _ HT.out).mono ?_
          rintro e w3 ⟨rfl, hdq⟩
          have hd := hdq.bels
          clear hdq
          replace hb := hb.trans (hd.mono hb.size)
          replace HT := Lib.hid (HT.out.kept hd)
          replace HG := Lib.hid (HG.out.kept hd)
          clear hd
          go_wp2_with fail
          refine (HBK.out _ HG.out).mono ?_
          rintro e w4 ⟨rfl, hdq⟩
          have hd := hdq.bels
          clear hdq
          replace hb := hb.trans (hd.mono hb.size)
          replace HT := Lib.hid (HT.out.kept hd)
          replace HG := Lib.hid (HG.out.kept hd)
          clear hd
          go_upto_region 4 with fail
          go_loopw [9] (fun iv wr => ∃ k : Nat, k ≤ ps.length ∧ iv = .int .i64 k ∧ Hid (TAt wr w.heap.size x q) ∧ Hid (BAt wr (w.heap.size + 1) 0 b) ∧ Below w.heap.size w wr) (fun iv _ => ps.length - (intOf iv).toNat)
          case atStart => exact ⟨0, Nat.zero_le _, rfl, HT, HG, hb⟩
          case round =>
            clear HG hb HT
            obtain ⟨k, hk, rfl, HT, HG, hb⟩ := hrel
            by_cases hk2 : k < ps.length
            · obtain ⟨b', o', rfl, c1⟩ := ply_cells HM.out hk2
              have c10 := cell_kept (c1 0 _ rfl) hb
              have c11 := cell_kept (c1 1 _ rfl) hb
              have c12 := cell_kept (c1 2 _ rfl) hb
              have c13 := cell_kept (c1 3 _ rfl) hb
              rw [Nat.add_zero] at c10
              have hk0 : (0 : Int) ≤ (k : Int) := by omega
              have hk3 : (k : Int) < (ps.length : Int) := by omega
              have HC := Lib.hid (HPK.out k hk2)
              rw [HPK2.out k hk2] at HC
              clear c1
              generalize ps[k] = pk at *
              go_wp2_with fail
              refine (HC.out _ HG.out).mono ?_
              rintro e w5 ⟨rfl, hd⟩
              replace hb := hb.trans (hd.mono hb.size)
              replace HT := Lib.hid (HT.out.kept hd)
              replace HG := Lib.hid (HG.out.kept hd)
              clear hd
              clear c10 c11 c12 c13 HC
              go_wp2
              go_roundw
              case rel => exact ⟨k + 1, by omega, by go_num, HT, HG, hb⟩
              case measure => simp [intOf]; omega
            · obtain rfl : k = ps.length := by omega
              have hl0 : 0 < ps.length := by omega
              clear HOK HBK HPK HPK2 HX
              obtain ⟨b', o', rfl, c1⟩ := ply_cells HM.out hl0
              have c10 := cell_kept (c1 0 _ rfl) hb
              have c11 := cell_kept (c1 1 _ rfl) hb
              have c12 := cell_kept (c1 2 _ rfl) hb
              have c13 := cell_kept (c1 3 _ rfl) hb
              simp only [Nat.zero_mul, Nat.add_zero] at c10 c11 c12 c13
              have HC := Lib.hid (HSC.out 0 hl0)
              have hl3 : (0 : Int) < (ps.length : Int) := by omega
              clear c1
              generalize ps[0] = p0 at *
              go_upto_region 11 with fail
              go_wp2_with fail
              refine (HC.out _ HT.out HG.out).mono ?_
              rintro e w6 ⟨rfl, hd⟩
              replace hb := hb.trans (hd.mono hb.size)
              replace HT := Lib.hid (HT.out.kept hd)
              replace HG := Lib.hid (HG.out.kept hd)
              clear hd
              clear c10 c11 c12 c13 HC hl3
              go_upto_region 13 with fail
              go_loopw [10, 11, 12, 13] (fun bv sv iv _ wr => ∃ k bk : Nat, k < ps.length ∧ bk ≤ k ∧ Hid (mvB ms k = bk) ∧ iv = .int .i64 ((k + 1 : Nat) : Int) ∧ bv = .int .i64 (bk : Nat) ∧ sv = .int .i64 (mvS ms bk) ∧ Hid (TAt wr w.heap.size x q) ∧ Hid (BAt wr (w.heap.size + 1) 0 b) ∧ Below w.heap.size w wr) (fun _ _ iv _ _ => ps.length - (intOf iv).toNat)
              case atStart => exact ⟨0, 0, hl0, Nat.le_refl _, HB0, rfl, rfl, rfl, HT, HG, hb⟩
              case round =>
                clear HT HG hb HB0
                obtain ⟨k, bk, hk, hbk, HBK, rfl, rfl, rfl, HT, HG, hb⟩ := hrel
                by_cases hk2 : k + 1 < ps.length
                · have hbl : bk < ps.length := by omega
                  obtain ⟨b2, o2, hab, c1⟩ := ply_cells HM.out hk2
                  cases hab
                  obtain ⟨b3, o3, hab, c2⟩ := ply_cells HM.out hbl
                  cases hab
                  have HC1 := Lib.hid (fun j v hv => cell_kept (c1 j v hv) hb)
                  have HC2 := Lib.hid (fun j v hv => cell_kept (c2 j v hv) hb)
                  have hk0 : (0 : Int) ≤ (k : Int) + 1 := by omega
                  have hk3 : (k : Int) + 1 < (ps.length : Int) := by omega
                  have hk4 : (0 : Int) ≤ (bk : Int) := by omega
                  have hk5 : (bk : Int) < (ps.length : Int) := by omega
                  have HC := Lib.hid (HSC.out (k + 1) hk2)
                  have HSK := Lib.hid (HST.out k hk2 bk hbl HBK.out)
                  clear c1 c2 HBK
                  generalize ps[k + 1] = p1 at *
                  generalize ps[bk] = p2 at *
                  have HLC : Hid (∀ W, Calls Tryz.prog 59 #[.agg #[.int .i64 p1.row, .int .i64 p1.col, .bool p1.down, .string p1.word], .agg #[.int .i64 p2.row, .int .i64 p2.col, .bool p2.down, .string p2.word]] W fun e w' => e = .returned (.int .i64 (p1.cmp p2)) ∧ Below W.heap.size W w') := Lib.hid (l12Compare_any p1 p2)
                  have HTR := Lib.hid (cmp_tri p1 p2)
                  have HMC : Hid (mvCmp (mvS ms (k + 1)) (mvS ms bk) p1 p2 = if mvS ms bk < mvS ms (k + 1) then -1 else if mvS ms (k + 1) < mvS ms bk then 1 else p1.cmp p2) := Lib.hid rfl
                  generalize p1.cmp p2 = r at *
                  generalize hs1 : mvS ms (k + 1) = s1 at *
                  generalize hs2 : mvS ms bk = s2 at *
                  generalize mvCmp s1 s2 p1 p2 = mc at *
                  have HS1 := Lib.hid hs1
                  have HS2 := Lib.hid hs2
                  clear hs1 hs2
                  have c10 := HC1.out 0 _ rfl
                  have c11 := HC1.out 1 _ rfl
                  have c12 := HC1.out 2 _ rfl
                  have c13 := HC1.out 3 _ rfl
                  rw [Nat.add_zero] at c10
                  go_wp2_with fail
                  refine (HC.out _ HT.out HG.out).mono ?_
                  rintro e w7 ⟨rfl, hd⟩
                  replace HC1 := Lib.hid (fun j v hv => cell_kept (HC1.out j v hv) hd)
                  replace HC2 := Lib.hid (fun j v hv => cell_kept (HC2.out j v hv) hd)
                  replace hb := hb.trans (hd.mono hb.size)
                  replace HT := Lib.hid (HT.out.kept hd)
                  replace HG := Lib.hid (HG.out.kept hd)
                  clear hd
                  clear c10 c11 c12 c13 HC
                  go_upto_region 16 with fail
                  by_cases hA : s2 < s1
                  · have HB2 : Hid (mvB ms (k + 1) = k + 1) := Lib.hid (by rw [HSK.out, HMC.out, if_pos hA]; rfl)
                    clear HMC HSK HC1 HC2
                    refine wp_region_quiet_below (by kernel_rfl) (by kernel_rfl) ?_
                    repeat (go_big_quiet_step ((first | (go_at_call 59; exact Calls.regrown_of (HLC.out _)))))
                    refine wpQuiet_nil ?_
                    intro wx hw'
                    obtain ⟨⟨dq, oq⟩, hw''⟩ := hw'
                    have hd := below_regrown w7 dq oq
                    rw [← hw''] at hd
                    clear hw''
                    replace hb := hb.trans (hd.mono hb.size)
                    replace HT := Lib.hid (HT.out.kept hd)
                    replace HG := Lib.hid (HG.out.kept hd)
                    clear hd
                    go_wp2
                    go_roundw
                    case rel => exact ⟨k + 1, k + 1, hk2, Nat.le_refl _, HB2, by go_num, by go_num, by rw [HS1.out], HT, HG, hb⟩
                    case measure => simp [intOf]; omega
                  · by_cases hB : s1 < s2
                    · have HB2 : Hid (mvB ms (k + 1) = bk) := Lib.hid (by rw [HSK.out, HMC.out, if_neg hA, if_pos hB]; rfl)
                      have hne : (s1 == s2) = false := by rw [beq_eq_false_iff_ne]; omega
                      clear HMC HSK HC1 HC2
                      refine wp_region_quiet_below (by kernel_rfl) (by kernel_rfl) ?_
                      repeat (go_big_quiet_step ((first | (go_at_call 59; exact Calls.regrown_of (HLC.out _)))))
                      refine wpQuiet_nil ?_
                      intro wx hw'
                      obtain ⟨⟨dq, oq⟩, hw''⟩ := hw'
                      have hd := below_regrown w7 dq oq
                      rw [← hw''] at hd
                      clear hw''
                      replace hb := hb.trans (hd.mono hb.size)
                      replace HT := Lib.hid (HT.out.kept hd)
                      replace HG := Lib.hid (HG.out.kept hd)
                      clear hd
                      go_wp2
                      go_roundw
                      case rel => exact ⟨k + 1, bk, hk2, by omega, HB2, by go_num, rfl, by rw [HS2.out], HT, HG, hb⟩
                      case measure => simp [intOf]; omega
                    · have hne : (s1 == s2) = true := by rw [beq_iff_eq]; omega
                      have HR : Hid (mc = r) := Lib.hid (by rw [HMC.out, if_neg hA, if_neg hB])
                      have a10 := cell_regrown (HC1.out 0 _ rfl)
                      have a11 := cell_regrown (HC1.out 1 _ rfl)
                      have a12 := cell_regrown (HC1.out 2 _ rfl)
                      have a13 := cell_regrown (HC1.out 3 _ rfl)
                      have a20 := cell_regrown (HC2.out 0 _ rfl)
                      have a21 := cell_regrown (HC2.out 1 _ rfl)
                      have a22 := cell_regrown (HC2.out 2 _ rfl)
                      have a23 := cell_regrown (HC2.out 3 _ rfl)
                      rw [Nat.add_zero] at a10 a20
                      rcases HTR.out with h | h | h
                      · have HB2 : Hid (mvB ms (k + 1) = k + 1) := Lib.hid (by rw [HSK.out, HR.out, h]; rfl)
                        subst h
                        clear HMC HSK HC1 HC2 HR HTR
                        refine wp_region_quiet_below (by kernel_rfl) (by kernel_rfl) ?_
                        repeat (go_big_quiet_step ((first | (go_at_call 59; exact Calls.regrown_of (HLC.out _)))))
                        refine wpQuiet_nil ?_
                        intro wx hw'
                        obtain ⟨⟨dq, oq⟩, hw''⟩ := hw'
                        have hd := below_regrown w7 dq oq
                        rw [← hw''] at hd
                        clear hw''
                        replace hb := hb.trans (hd.mono hb.size)
                        replace HT := Lib.hid (HT.out.kept hd)
                        replace HG := Lib.hid (HG.out.kept hd)
                        clear hd
                        clear a10 a11 a12 a13 a20 a21 a22 a23
                        go_wp2
                        go_roundw
                        case rel => exact ⟨k + 1, k + 1, hk2, Nat.le_refl _, HB2, by go_num, by go_num, by rw [HS1.out], HT, HG, hb⟩
                        case measure => simp [intOf]; omega
                      · have HB2 : Hid (mvB ms (k + 1) = bk) := Lib.hid (by rw [HSK.out, HR.out, h]; rfl)
                        subst h
                        clear HMC HSK HC1 HC2 HR HTR
                        refine wp_region_quiet_below (by kernel_rfl) (by kernel_rfl) ?_
                        repeat (go_big_quiet_step ((first | (go_at_call 59; exact Calls.regrown_of (HLC.out _)))))
                        refine wpQuiet_nil ?_
                        intro wx hw'
                        obtain ⟨⟨dq, oq⟩, hw''⟩ := hw'
                        have hd := below_regrown w7 dq oq
                        rw [← hw''] at hd
                        clear hw''
                        replace hb := hb.trans (hd.mono hb.size)
                        replace HT := Lib.hid (HT.out.kept hd)
                        replace HG := Lib.hid (HG.out.kept hd)
                        clear hd
                        clear a10 a11 a12 a13 a20 a21 a22 a23
                        go_wp2
                        go_roundw
                        case rel => exact ⟨k + 1, bk, hk2, by omega, HB2, by go_num, rfl, by rw [HS2.out], HT, HG, hb⟩
                        case measure => simp [intOf]; omega
                      · have HB2 : Hid (mvB ms (k + 1) = bk) := Lib.hid (by rw [HSK.out, HR.out, h]; rfl)
                        subst h
                        clear HMC HSK HC1 HC2 HR HTR
                        refine wp_region_quiet_below (by kernel_rfl) (by kernel_rfl) ?_
                        repeat (go_big_quiet_step ((first | (go_at_call 59; exact Calls.regrown_of (HLC.out _)))))
                        refine wpQuiet_nil ?_
                        intro wx hw'
                        obtain ⟨⟨dq, oq⟩, hw''⟩ := hw'
                        have hd := below_regrown w7 dq oq
                        rw [← hw''] at hd
                        clear hw''
                        replace hb := hb.trans (hd.mono hb.size)
                        replace HT := Lib.hid (HT.out.kept hd)
                        replace HG := Lib.hid (HG.out.kept hd)
                        clear hd
                        clear a10 a11 a12 a13 a20 a21 a22 a23
                        go_wp2
                        go_roundw
                        case rel => exact ⟨k + 1, bk, hk2, by omega, HB2, by go_num, rfl, by rw [HS2.out], HT, HG, hb⟩
                        case measure => simp [intOf]; omega
                · have e : k = ps.length - 1 := by omega
                  have HF : Hid (mvB ms (ps.length - 1) = bk) := Lib.hid (by rw [← e]; exact HBK.out)
                  have hk3 : ¬ (k : Int) + 1 < (ps.length : Int) := by omega
                  clear HBK e HST HSC
                  go_wp2
                  try simp only [Exit.inBlock, Exit.then]
                  refine bodyPost_ret (results_tmp3 rfl _ _ _) rfl ?_
                  exact ⟨by rw [HF.out]; rfl, hb⟩
end Go.Proofs.YtofcampipllegaaGreatDoor
