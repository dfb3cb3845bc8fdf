/- Contracts: the reference's best play of a list. No condition but that lengths fit an int. · Contracts: the program's best play of a list. Go's tables of unicode and unicode/utf8 hold · Contracts: the value of what is on a board, of letters: both sides. Go's tables (CEnv), in · Contracts: the program's best play of a list. Go's tables of unicode and unicode/utf8 hold · What the law FnFaceValues asks of a tile set, a board and plays. Go's tables (CEnv), inter -/
import Derived.Test.YtjdcdhhbgijaoaaGreatDoorBpEz
import Derived.Test.YtjdcdhhbgijaoaaGreatDoorScE
import Derived.Test.YtjdcdhhbgijaoaaGreatDoorGmM
import Derived.Test.YtjdcdhhbgijaoaaGreatDoorFpP
import Derived.BigQuiet
import Derived.Test.YtjdcdhhbgijaoaaGreatDoorFpI
import Derived.Test.YtjdcdhhbgijaoaaGreatDoorGmEz
namespace Go.Proofs.YtjdcdhhbgijaoaaGreatDoor
open Go.ChangeShapes Go.WideShapes Go.ChangeAt Go.RowKit Go.Sort

theorem results_tmp3 {fn : Func} {t u v : Tmp} (h : fn.results = #[.tmp t, .tmp u, .tmp v]) (tmps : Array Value) (P : Program) (w : World) :
    (results fn tmps).run P w = .ok (.tuple #[tmps.getD t undef, tmps.getD u undef, tmps.getD v undef]) w := by simp [results, h]
/-- the scored plays of a list -/
def scored (x : Tls) (b : Brd) (ps : List Ply) : List Mv := ps.map fun p => (b.score p x, p)
theorem scored_len (x : Tls) (b : Brd) (ps : List Ply) : (scored x b ps).length = ps.length := by unfold scored; rw [List.length_map]
theorem scored_S {x : Tls} {b : Brd} {ps : List Ply} {k : Nat} (h : k < ps.length) : mvS (scored x b ps) k = b.score ps[k] x := by
  unfold mvS scored
  rw [List.getD_eq_getElem?_getD, List.getElem?_map, List.getElem?_eq_getElem h]
  rfl
theorem scored_P {x : Tls} {b : Brd} {ps : List Ply} {k : Nat} (h : k < ps.length) : mvP (scored x b ps) k = ps[k] := by
  unfold mvP scored
  rw [List.getD_eq_getElem?_getD, List.getElem?_map, List.getElem?_eq_getElem h]
  rfl
/-- the best play of a list: where it lies, its score, a code -/
def bestR (x : Tls) (b : Brd) (ps : List Ply) : Int × Int × Int :=
  if (x.ok && (b.ok && allPlays b ps)) = false then (0, 0, 1) else if ps.length = 0 then (0, 0, 3) else ((mvB (scored x b ps) (ps.length - 1) : Nat), mvS (scored x b ps) (mvB (scored x b ps) (ps.length - 1)), 0)
def BestPost (x : Tls) (b : Brd) (ps : List Ply) (w : World) (e : Ending) (w' : World) : Prop := e = .returned (.tuple #[.int .i64 (bestR x b ps).1, .int .i64 (bestR x b ps).2.1, .int .i64 (bestR x b ps).2.2]) ∧ Below w.heap.size w w'
theorem best_no {x : Tls} {b : Brd} {ps : List Ply} {w : World} (h : (x.ok && (b.ok && allPlays b ps)) = false) : ∀ e w', (e = .returned (.tuple #[.int .i64 0, .int .i64 0, .int .i64 1]) ∧ Below w.heap.size w w') → BestPost x b ps w e w' := by
  intro e w' hh
  unfold BestPost bestR
  rw [if_pos h]
  exact hh
theorem best_none {x : Tls} {b : Brd} {ps : List Ply} {w : World} (h : (x.ok && (b.ok && allPlays b ps)) = true) (h0 : ps.length = 0) : ∀ e w', (e = .returned (.tuple #[.int .i64 0, .int .i64 0, .int .i64 3]) ∧ Below w.heap.size w w') → BestPost x b ps w e w' := by
  intro e w' hh
  unfold BestPost bestR
  rw [if_neg (by rw [h]; decide), if_pos h0]
  exact hh
theorem best_some {x : Tls} {b : Brd} {ps : List Ply} {w : World} (h : (x.ok && (b.ok && allPlays b ps)) = true) (h0 : ¬ ps.length = 0) : ∀ e w', (e = .returned (.tuple #[.int .i64 (mvB (scored x b ps) (ps.length - 1) : Nat), .int .i64 (mvS (scored x b ps) (mvB (scored x b ps) (ps.length - 1))), .int .i64 0]) ∧ Below w.heap.size w w') → BestPost x b ps w e w' := by
  intro e w' hh
  unfold BestPost bestR
  rw [if_neg (by rw [h]; decide), if_neg h0]
  exact hh
set_option maxRecDepth 100000 in
set_option maxHeartbeats 8000000 in
theorem specBestPlay_any (x : Tls) (q : TlA) (b : Brd) (ps : List Ply) (a : Option Addr) (cap : Nat) (w : World) (ha : x.At q w) (hft : x.fit) (hf : b.fit) (hps : ∀ p ∈ ps, p.fit) (hl : ps.length ≤ 9223372036854775807) (hm : SliceAt w 4 Ply.enc a ps) :
    Calls Tryz.prog 37 #[.agg #[.string x.letters, .slice q.values.a x.values.length q.values.c, .slice q.counts.a x.counts.length q.counts.c, .int .i64 x.blanks], .agg #[.int .i64 b.size, .string b.premium, .string b.cells], .slice a ps.length cap] w (BestPost x b ps w) := by
  obtain ⟨w2, hw2⟩ : ∃ w2, w2 = (w.alloc (.cells #[.string x.letters, .slice q.values.a x.values.length q.values.c, .slice q.counts.a x.counts.length q.counts.c, .int .i64 x.blanks] 44)).alloc (.cells #[.int .i64 b.size, .string b.premium, .string b.cells] 25) := ⟨_, rfl⟩
  have hb : Below w.heap.size w w2 := by rw [hw2]; exact ((Below.refl _ _).alloc (Nat.le_refl _) _).alloc (by simp) _
  have HT : Hid (TAt w2 w.heap.size x q) := by
    rw [hw2]
    exact Lib.hid ((TAt.new w x q 44 ha).kept ((Below.refl _ _).alloc (Nat.le_refl _) _))
  have HG : Hid (BAt w2 (w.heap.size + 1) 0 b) := by
    rw [hw2]
    have := BAt.new (w.alloc (.cells #[.string x.letters, .slice q.values.a x.values.length q.values.c, .slice q.counts.a x.counts.length q.counts.c, .int .i64 x.blanks] 44)) b 25
    simp only [World.size_alloc] at this
    exact Lib.hid this
  have HW2 := Lib.hid hw2
  have HM := Lib.hid hm
  have HOK : Hid (∀ W, TAt W w.heap.size x q → Calls Tryz.prog 88 #[.pointer (some ⟨w.heap.size, 0, none⟩)] W fun e w' => e = .returned (.bool x.ok) ∧ Drew W w') := Lib.hid (fun W h => l02Ok_any x q _ W h hft)
  have HBK : Hid (∀ W, BAt W (w.heap.size + 1) 0 b → Calls Tryz.prog 74 #[.pointer (some ⟨w.heap.size + 1, 0, none⟩)] W fun e w' => e = .returned (.bool b.ok) ∧ Drew W w') := Lib.hid (fun W h => l11Ok_any b _ 0 W h hf)
  have HPK : Hid (∀ k (hk : k < ps.length) W, BAt W (w.heap.size + 1) 0 b → Calls Tryz.prog 81 #[.pointer (some ⟨w.heap.size + 1, 0, none⟩), .agg #[.int .i64 ps[k].row, .int .i64 ps[k].col, .bool ps[k].down, .string ps[k].word]] W fun e w' => e = .returned (.bool (b.okPlay ps[k])) ∧ Below W.heap.size W w') := Lib.hid (fun k hk W h => l12Ok_any b ps[k] _ 0 W h hf (hps _ (List.getElem_mem hk)))
  have HN := Lib.hid (fun k (hk : k < ps.length) h => plays_no (b := b) (ps := ps) hk h)
  have HY := Lib.hid (fun h => plays_yes (b := b) (ps := ps) h)
  clear hw2 ha hm hps hft hf
  cases hlx : x.ok with
  | false =>
    refine Calls.mono (R := fun e w' => e = .returned (.tuple #[.int .i64 0, .int .i64 0, .int .i64 1]) ∧ Below w.heap.size w w') ?_ (best_no (by rw [hlx]; rfl))
    rw [hlx] at HOK
    clear hlx
    go_enter Tryz.func37, Tryz.ntmps37
    go_upto_region 1 with fail
    rw [← HW2.out]
    clear HW2
    go_wp2_with fail
    refine (HOK.out _ HT.out).mono ?_
    rintro e w3 ⟨rfl, hdq⟩
    have hd := hdq.bels
    clear hdq
    replace hb := hb.trans (hd.mono hb.size)
    replace HT := Lib.hid (HT.out.kept hd)
    replace HG := Lib.hid (HG.out.kept hd)
    clear hd
    go_wp2
    try simp only [Exit.inBlock, Exit.then]
    refine bodyPost_ret (results_tmp3 rfl _ _ _) rfl ?_
    exact ⟨rfl, hb⟩
  | true =>
    cases hbo : b.ok with
    | false =>
      refine Calls.mono (R := fun e w' => e = .returned (.tuple #[.int .i64 0, .int .i64 0, .int .i64 1]) ∧ Below w.heap.size w w') ?_ (best_no (by rw [hbo]; simp))
      rw [hlx] at HOK
      rw [hbo] at HBK
      clear hlx hbo
      go_enter Tryz.func37, Tryz.ntmps37
      go_upto_region 1 with fail
      rw [← HW2.out]
      clear HW2
      go_wp2_with fail
      refine (HOK.out _ HT.out).mono ?_
      rintro e w3 ⟨rfl, hdq⟩
      have hd := hdq.bels
      clear hdq
      replace hb := hb.trans (hd.mono hb.size)
      replace HT := Lib.hid (HT.out.kept hd)
      replace HG := Lib.hid (HG.out.kept hd)
      clear hd
      go_wp2_with fail
      refine (HBK.out _ HG.out).mono ?_
      rintro e w4 ⟨rfl, hdq⟩
      have hd := hdq.bels
      clear hdq
      replace hb := hb.trans (hd.mono hb.size)
      clear hd
      go_wp2
      try simp only [Exit.inBlock, Exit.then]
      refine bodyPost_ret (results_tmp3 rfl _ _ _) rfl ?_
      exact ⟨rfl, hb⟩
    | true =>
      rw [hlx] at HOK
      rw [hbo] at HBK
      cases hal : allPlays b ps with
      | false =>
        refine Calls.mono (R := fun e w' => e = .returned (.tuple #[.int .i64 0, .int .i64 0, .int .i64 1]) ∧ Below w.heap.size w w') ?_ (best_no (by rw [hal]; simp))
        have HAL := Lib.hid hal
        clear hlx hbo hal HN
        go_enter Tryz.func37, Tryz.ntmps37
        go_upto_region 1 with fail
        rw [← HW2.out]
        clear HW2
        go_wp2_with fail
        refine (HOK.out _ HT.out).mono ?_
        rintro e w3 ⟨rfl, hdq⟩
        have hd := hdq.bels
        clear hdq
        replace hb := hb.trans (hd.mono hb.size)
        replace HT := Lib.hid (HT.out.kept hd)
        replace HG := Lib.hid (HG.out.kept hd)
        clear hd
        go_wp2_with fail
        refine (HBK.out _ HG.out).mono ?_
        rintro e w4 ⟨rfl, hdq⟩
        have hd := hdq.bels
        clear hdq
        replace hb := hb.trans (hd.mono hb.size)
        replace HT := Lib.hid (HT.out.kept hd)
        replace HG := Lib.hid (HG.out.kept hd)
        clear hd
        go_upto_region 4 with fail
        go_loopw [9] (fun iv wr => ∃ k : Nat, k ≤ ps.length ∧ iv = .int .i64 k ∧ Hid (∀ j (h : j < ps.length), j < k → b.okPlay ps[j] = true) ∧ Hid (BAt wr (w.heap.size + 1) 0 b) ∧ Below w.heap.size w wr) (fun iv _ => ps.length - (intOf iv).toNat)
        case atStart => exact ⟨0, Nat.zero_le _, rfl, Lib.hid (fun j _ h => absurd h (Nat.not_lt_zero _)), HG, hb⟩
        case round =>
          clear HG hb HT
          obtain ⟨k, hk, rfl, HP, HG, hb⟩ := hrel
          by_cases hk2 : k < ps.length
          · obtain ⟨b', o', rfl, c1⟩ := ply_cells HM.out hk2
            have c10 := cell_kept (c1 0 _ rfl) hb
            have c11 := cell_kept (c1 1 _ rfl) hb
            have c12 := cell_kept (c1 2 _ rfl) hb
            have c13 := cell_kept (c1 3 _ rfl) hb
            rw [Nat.add_zero] at c10
            have hk0 : (0 : Int) ≤ (k : Int) := by omega
            have hk3 : (k : Int) < (ps.length : Int) := by omega
            have HC := Lib.hid (HPK.out k hk2)
            have HPk := Lib.hid (fun h : b.okPlay ps[k] = true => (fun j (hj : j < ps.length) (hjk : j < k + 1) => (by
              by_cases e : j = k
              · subst e; exact h
              · exact HP.out j hj (by omega) : b.okPlay ps[j] = true)))
            clear c1 HP
            generalize ps[k] = pk at *
            generalize hv : b.okPlay pk = v at *
            clear hv
            go_wp2_with fail
            refine (HC.out _ HG.out).mono ?_
            rintro e w5 ⟨rfl, hd⟩
            replace hb := hb.trans (hd.mono hb.size)
            replace HG := Lib.hid (HG.out.kept hd)
            clear hd
            clear c10 c11 c12 c13 HC
            cases v with
            | false =>
              go_wp2
              try simp only [Exit.inBlock, Exit.then]
              refine bodyPost_ret (results_tmp3 rfl _ _ _) rfl ?_
              exact ⟨rfl, hb⟩
            | true =>
              go_wp2
              go_roundw
              case rel => exact ⟨k + 1, by omega, by go_num, Lib.hid (HPk.out (by trivial)), HG, hb⟩
              case measure => simp [intOf]; omega
          · exfalso
            have h := HY.out (fun j hj => HP.out j hj (by omega))
            rw [HAL.out] at h
            cases h
      | true =>
        have HPK2 : Hid (∀ k (hk : k < ps.length), b.okPlay ps[k] = true) := Lib.hid (fun k hk => by
          have h := hal
          unfold allPlays at h
          exact (List.all_eq_true.1 h) _ (List.getElem_mem hk))
        have HX := Lib.hid (Tls.good hlx)
        have HSC : Hid (∀ k (hk : k < ps.length) W, TAt W w.heap.size x q → BAt W (w.heap.size + 1) 0 b → Calls Tryz.prog 89 #[.pointer (some ⟨w.heap.size, 0, none⟩), .pointer (some ⟨w.heap.size + 1, 0, none⟩), .agg #[.int .i64 ps[k].row, .int .i64 ps[k].col, .bool ps[k].down, .string ps[k].word]] W fun e w' => e = .returned (.int .i64 (mvS (scored x b ps) k)) ∧ Below W.heap.size W w') := Lib.hid (fun k hk W h h2 => by
          obtain ⟨n, hpg⟩ := okPlay_good (HPK2.out k hk)
          rw [scored_S hk]
          exact l13Score_any x q _ b ps[k] n _ 0 W h HX.out h2 hpg)
        have HST : Hid (∀ k (h : k + 1 < ps.length) bk (hbk : bk < ps.length), mvB (scored x b ps) k = bk → mvB (scored x b ps) (k + 1) = if mvCmp (mvS (scored x b ps) (k + 1)) (mvS (scored x b ps) bk) ps[k + 1] ps[bk] < 0 then k + 1 else bk) := Lib.hid (fun k h bk hbk e => by
          rw [mvB_step, e, scored_P h, scored_P hbk])
        have HLE := Lib.hid (mvB_le (scored x b ps))
        by_cases h0 : ps.length = 0
        · refine Calls.mono (R := fun e w' => e = .returned (.tuple #[.int .i64 0, .int .i64 0, .int .i64 3]) ∧ Below w.heap.size w w') ?_ (best_none (by rw [hlx, hbo, hal]; rfl) h0)
          have e0 : ((ps.length : Int) == 0) = true := by rw [h0]; rfl
          clear hal HN HY hlx hbo HSC HST HLE
          go_enter Tryz.func37, Tryz.ntmps37
          go_upto_region 1 with fail
          rw [← HW2.out]
          clear HW2
          go_wp2_with fail
          refine (HOK.out _ HT.out).mono ?_
          rintro e w3 ⟨rfl, hdq⟩
          have hd := hdq.bels
          clear hdq
          replace hb := hb.trans (hd.mono hb.size)
          replace HT := Lib.hid (HT.out.kept hd)
          replace HG := Lib.hid (HG.out.kept hd)
          clear hd
          go_wp2_with fail
          refine (HBK.out _ HG.out).mono ?_
          rintro e w4 ⟨rfl, hdq⟩
          have hd := hdq.bels
          clear hdq
          replace hb := hb.trans (hd.mono hb.size)
          replace HT := Lib.hid (HT.out.kept hd)
          replace HG := Lib.hid (HG.out.kept hd)
          clear hd
          go_upto_region 4 with fail
          go_loopw [9] (fun iv wr => iv = .int .i64 0 ∧ Below w.heap.size w wr) (fun iv _ => ps.length - (intOf iv).toNat)
          case atStart => exact ⟨rfl, hb⟩
          case round =>
            clear hb HG HT
            obtain ⟨rfl, hb⟩ := hrel
            have h1 : ¬ (0 : Int) < (ps.length : Int) := by omega
            go_wp2
            try simp only [Exit.inBlock, Exit.then]
            refine bodyPost_ret (results_tmp3 rfl _ _ _) rfl ?_
            exact ⟨rfl, hb⟩
        · refine Calls.mono (R := fun e w' => e = .returned (.tuple #[.int .i64 (mvB (scored x b ps) (ps.length - 1) : Nat), .int .i64 (mvS (scored x b ps) (mvB (scored x b ps) (ps.length - 1))), .int .i64 0]) ∧ Below w.heap.size w w') ?_ (best_some (by rw [hlx, hbo, hal]; rfl) h0)
          have e0 : ((ps.length : Int) == 0) = false := by rw [beq_eq_false_iff_ne]; omega
          have HB0 : Hid (mvB (scored x b ps) 0 = 0) := Lib.hid rfl
          clear hal HN HY hlx hbo
          generalize scored x b ps = ms at *
          go_enter Tryz.func37, Tryz.ntmps37
          go_upto_region 1 with fail
          rw [← HW2.out]
          clear HW2
          go_wp2_with fail
          refine (HOK.out _ HT.out).mono ?_
          rintro e w3 ⟨rfl, hdq⟩
          have hd := hdq.bels
          clear hdq
          replace hb := hb.trans (hd.mono hb.size)
          replace HT := Lib.hid (HT.out.kept hd)
          replace HG := Lib.hid (HG.out.kept hd)
          clear hd
          go_wp2_with fail
          refine (HBK.out _ HG.out).mono ?_
          rintro e w4 ⟨rfl, hdq⟩
          have hd := hdq.bels
          clear hdq
          replace hb := hb.trans (hd.mono hb.size)
          replace HT := Lib.hid (HT.out.kept hd)
          replace HG := Lib.hid (HG.out.kept hd)
          clear hd
          go_upto_region 4 with fail
          go_loopw [9] (fun iv wr => ∃ k : Nat, k ≤ ps.length ∧ iv = .int .i64 k ∧ Hid (TAt wr w.heap.size x q) ∧ Hid (BAt wr (w.heap.size + 1) 0 b) ∧ Below w.heap.size w wr) (fun iv _ => ps.length - (intOf iv).toNat)
          case atStart => exact ⟨0, Nat.zero_le _, rfl, HT, HG, hb⟩
          case round =>
            clear HG hb HT
            obtain ⟨k, hk, rfl, HT, HG, hb⟩ := hrel
            by_cases hk2 : k < ps.length
            · obtain ⟨b', o', rfl, c1⟩ := ply_cells HM.out hk2
              have c10 := cell_kept (c1 0 _ rfl) hb
              have c11 := cell_kept (c1 1 _ rfl) hb
              have c12 := cell_kept (c1 2 _ rfl) hb
              have c13 := cell_kept (c1 3 _ rfl) hb
              rw [Nat.add_zero] at c10
              have hk0 : (0 : Int) ≤ (k : Int) := by omega
              have hk3 : (k : Int) < (ps.length : Int) := by omega
              have HC := Lib.hid (HPK.out k hk2)
              rw [HPK2.out k hk2] at HC
              clear c1
              generalize ps[k] = pk at *
              go_wp2_with fail
              refine (HC.out _ HG.out).mono ?_
              rintro e w5 ⟨rfl, hd⟩
              replace hb := hb.trans (hd.mono hb.size)
              replace HT := Lib.hid (HT.out.kept hd)
              replace HG := Lib.hid (HG.out.kept hd)
              clear hd
              clear c10 c11 c12 c13 HC
              go_wp2
              go_roundw
              case rel => exact ⟨k + 1, by omega, by go_num, HT, HG, hb⟩
              case measure => simp [intOf]; omega
            · obtain rfl : k = ps.length := by omega
              have hl0 : 0 < ps.length := by omega
              clear HOK HBK HPK HPK2 HX
              obtain ⟨b', o', rfl, c1⟩ := ply_cells HM.out hl0
              have c10 := cell_kept (c1 0 _ rfl) hb
              have c11 := cell_kept (c1 1 _ rfl) hb
              have c12 := cell_kept (c1 2 _ rfl) hb
              have c13 := cell_kept (c1 3 _ rfl) hb
              simp only [Nat.zero_mul, Nat.add_zero] at c10 c11 c12 c13
              have HC := Lib.hid (HSC.out 0 hl0)
              have hl3 : (0 : Int) < (ps.length : Int) := by omega
              clear c1
              generalize ps[0] = p0 at *
              go_upto_region 11 with fail
              go_wp2_with fail
              refine (HC.out _ HT.out HG.out).mono ?_
              rintro e w6 ⟨rfl, hd⟩
              replace hb := hb.trans (hd.mono hb.size)
              replace HT := Lib.hid (HT.out.kept hd)
              replace HG := Lib.hid (HG.out.kept hd)
              clear hd
              clear c10 c11 c12 c13 HC hl3
              go_upto_region 13 with fail
              go_loopw [10, 11, 12, 13] (fun bv sv iv _ wr => ∃ k bk : Nat, k < ps.length ∧ bk ≤ k ∧ Hid (mvB ms k = bk) ∧ iv = .int .i64 ((k + 1 : Nat) : Int) ∧ bv = .int .i64 (bk : Nat) ∧ sv = .int .i64 (mvS ms bk) ∧ Hid (TAt wr w.heap.size x q) ∧ Hid (BAt wr (w.heap.size + 1) 0 b) ∧ Below w.heap.size w wr) (fun _ _ iv _ _ => ps.length - (intOf iv).toNat)
              case atStart => exact ⟨0, 0, hl0, Nat.le_refl _, HB0, rfl, rfl, rfl, HT, HG, hb⟩
              case round =>
                clear HT HG hb HB0
                obtain ⟨k, bk, hk, hbk, HBK, rfl, rfl, rfl, HT, HG, hb⟩ := hrel
                by_cases hk2 : k + 1 < ps.length
                · have hbl : bk < ps.length := by omega
                  obtain ⟨b2, o2, hab, c1⟩ := ply_cells HM.out hk2
                  cases hab
                  obtain ⟨b3, o3, hab, c2⟩ := ply_cells HM.out hbl
                  cases hab
                  have HC1 := Lib.hid (fun j v hv => cell_kept (c1 j v hv) hb)
                  have HC2 := Lib.hid (fun j v hv => cell_kept (c2 j v hv) hb)
                  have hk0 : (0 : Int) ≤ (k : Int) + 1 := by omega
                  have hk3 : (k : Int) + 1 < (ps.length : Int) := by omega
                  have hk4 : (0 : Int) ≤ (bk : Int) := by omega
                  have hk5 : (bk : Int) < (ps.length : Int) := by omega
                  have HC := Lib.hid (HSC.out (k + 1) hk2)
                  have HSK := Lib.hid (HST.out k hk2 bk hbl HBK.out)
                  clear c1 c2 HBK
                  generalize ps[k + 1] = p1 at *
                  generalize ps[bk] = p2 at *
                  have HLC : Hid (∀ W, Calls Tryz.prog 114 #[.agg #[.int .i64 p1.row, .int .i64 p1.col, .bool p1.down, .string p1.word], .agg #[.int .i64 p2.row, .int .i64 p2.col, .bool p2.down, .string p2.word]] W fun e w' => e = .returned (.int .i64 (p1.cmp p2)) ∧ Below W.heap.size W w') := Lib.hid (l12Compare_any p1 p2)
                  have HTR := Lib.hid (cmp_tri p1 p2)
                  have HMC : Hid (mvCmp (mvS ms (k + 1)) (mvS ms bk) p1 p2 = if mvS ms bk < mvS ms (k + 1) then -1 else if mvS ms (k + 1) < mvS ms bk then 1 else p1.cmp p2) := Lib.hid rfl
                  generalize p1.cmp p2 = r at *
                  generalize hs1 : mvS ms (k + 1) = s1 at *
                  generalize hs2 : mvS ms bk = s2 at *
                  generalize mvCmp s1 s2 p1 p2 = mc at *
                  have HS1 := Lib.hid hs1
                  have HS2 := Lib.hid hs2
                  clear hs1 hs2
                  have c10 := HC1.out 0 _ rfl
                  have c11 := HC1.out 1 _ rfl
                  have c12 := HC1.out 2 _ rfl
                  have c13 := HC1.out 3 _ rfl
                  rw [Nat.add_zero] at c10
                  go_wp2_with fail
                  refine (HC.out _ HT.out HG.out).mono ?_
                  rintro e w7 ⟨rfl, hd⟩
                  replace HC1 := Lib.hid (fun j v hv => cell_kept (HC1.out j v hv) hd)
                  replace HC2 := Lib.hid (fun j v hv => cell_kept (HC2.out j v hv) hd)
                  replace hb := hb.trans (hd.mono hb.size)
                  replace HT := Lib.hid (HT.out.kept hd)
                  replace HG := Lib.hid (HG.out.kept hd)
                  clear hd
                  clear c10 c11 c12 c13 HC
                  go_upto_region 16 with fail
                  by_cases hA : s2 < s1
                  · have HB2 : Hid (mvB ms (k + 1) = k + 1) := Lib.hid (by rw [HSK.out, HMC.out, if_pos hA]; rfl)
                    clear HMC HSK HC1 HC2
                    refine wp_region_quiet_below (by kernel_rfl) (by kernel_rfl) ?_
                    repeat (go_big_quiet_step ((first | (go_at_call 114; exact Calls.regrown_of (HLC.out _)))))
                    refine wpQuiet_nil ?_
                    intro wx hw'
                    obtain ⟨⟨dq, oq⟩, hw''⟩ := hw'
                    have hd := below_regrown w7 dq oq
                    rw [← hw''] at hd
                    clear hw''
                    replace hb := hb.trans (hd.mono hb.size)
                    replace HT := Lib.hid (HT.out.kept hd)
                    replace HG := Lib.hid (HG.out.kept hd)
                    clear hd
                    go_wp2
                    go_roundw
                    case rel => exact ⟨k + 1, k + 1, hk2, Nat.le_refl _, HB2, by go_num, by go_num, by rw [HS1.out], HT, HG, hb⟩
                    case measure => simp [intOf]; omega
                  · by_cases hB : s1 < s2
                    · have HB2 : Hid (mvB ms (k + 1) = bk) := Lib.hid (by rw [HSK.out, HMC.out, if_neg hA, if_pos hB]; rfl)
                      have hne : (s1 == s2) = false := by rw [beq_eq_false_iff_ne]; omega
                      clear HMC HSK HC1 HC2
                      refine wp_region_quiet_below (by kernel_rfl) (by kernel_rfl) ?_
                      repeat (go_big_quiet_step ((first | (go_at_call 114; exact Calls.regrown_of (HLC.out _)))))
                      refine wpQuiet_nil ?_
                      intro wx hw'
                      obtain ⟨⟨dq, oq⟩, hw''⟩ := hw'
                      have hd := below_regrown w7 dq oq
                      rw [← hw''] at hd
                      clear hw''
                      replace hb := hb.trans (hd.mono hb.size)
                      replace HT := Lib.hid (HT.out.kept hd)
                      replace HG := Lib.hid (HG.out.kept hd)
                      clear hd
                      go_wp2
                      go_roundw
                      case rel => exact ⟨k + 1, bk, hk2, by omega, HB2, by go_num, rfl, by rw [HS2.out], HT, HG, hb⟩
                      case measure => simp [intOf]; omega
                    · have hne : (s1 == s2) = true := by rw [beq_iff_eq]; omega
                      have HR : Hid (mc = r) := Lib.hid (by rw [HMC.out, if_neg hA, if_neg hB])
                      have a10 := cell_regrown (HC1.out 0 _ rfl)
                      have a11 := cell_regrown (HC1.out 1 _ rfl)
                      have a12 := cell_regrown (HC1.out 2 _ rfl)
                      have a13 := cell_regrown (HC1.out 3 _ rfl)
                      have a20 := cell_regrown (HC2.out 0 _ rfl)
                      have a21 := cell_regrown (HC2.out 1 _ rfl)
                      have a22 := cell_regrown (HC2.out 2 _ rfl)
                      have a23 := cell_regrown (HC2.out 3 _ rfl)
                      rw [Nat.add_zero] at a10 a20
                      rcases HTR.out with h | h | h
                      · have HB2 : Hid (mvB ms (k + 1) = k + 1) := Lib.hid (by rw [HSK.out, HR.out, h]; rfl)
                        subst h
                        clear HMC HSK HC1 HC2 HR HTR
                        refine wp_region_quiet_below (by kernel_rfl) (by kernel_rfl) ?_
                        repeat (go_big_quiet_step ((first | (go_at_call 114; exact Calls.regrown_of (HLC.out _)))))
                        refine wpQuiet_nil ?_
                        intro wx hw'
                        obtain ⟨⟨dq, oq⟩, hw''⟩ := hw'
                        have hd := below_regrown w7 dq oq
                        rw [← hw''] at hd
                        clear hw''
                        replace hb := hb.trans (hd.mono hb.size)
                        replace HT := Lib.hid (HT.out.kept hd)
                        replace HG := Lib.hid (HG.out.kept hd)
                        clear hd
                        clear a10 a11 a12 a13 a20 a21 a22 a23
                        go_wp2
                        go_roundw
                        case rel => exact ⟨k + 1, k + 1, hk2, Nat.le_refl _, HB2, by go_num, by go_num, by rw [HS1.out], HT, HG, hb⟩
                        case measure => simp [intOf]; omega
                      · have HB2 : Hid (mvB ms (k + 1) = bk) := Lib.hid (by rw [HSK.out, HR.out, h]; rfl)
                        subst h
                        clear HMC HSK HC1 HC2 HR HTR
                        refine wp_region_quiet_below (by kernel_rfl) (by kernel_rfl) ?_
                        repeat (go_big_quiet_step ((first | (go_at_call 114; exact Calls.regrown_of (HLC.out _)))))
                        refine wpQuiet_nil ?_
                        intro wx hw'
                        obtain ⟨⟨dq, oq⟩, hw''⟩ := hw'
                        have hd := below_regrown w7 dq oq
                        rw [← hw''] at hd
                        clear hw''
                        replace hb := hb.trans (hd.mono hb.size)
                        replace HT := Lib.hid (HT.out.kept hd)
                        replace HG := Lib.hid (HG.out.kept hd)
                        clear hd
                        clear a10 a11 a12 a13 a20 a21 a22 a23
                        go_wp2
                        go_roundw
                        case rel => exact ⟨k + 1, bk, hk2, by omega, HB2, by go_num, rfl, by rw [HS2.out], HT, HG, hb⟩
                        case measure => simp [intOf]; omega
                      · have HB2 : Hid (mvB ms (k + 1) = bk) := Lib.hid (by rw [HSK.out, HR.out, h]; rfl)
                        subst h
                        clear HMC HSK HC1 HC2 HR HTR
                        refine wp_region_quiet_below (by kernel_rfl) (by kernel_rfl) ?_
                        repeat (go_big_quiet_step ((first | (go_at_call 114; exact Calls.regrown_of (HLC.out _)))))
                        refine wpQuiet_nil ?_
                        intro wx hw'
                        obtain ⟨⟨dq, oq⟩, hw''⟩ := hw'
                        have hd := below_regrown w7 dq oq
                        rw [← hw''] at hd
                        clear hw''
                        replace hb := hb.trans (hd.mono hb.size)
                        replace HT := Lib.hid (HT.out.kept hd)
                        replace HG := Lib.hid (HG.out.kept hd)
                        clear hd
                        clear a10 a11 a12 a13 a20 a21 a22 a23
                        go_wp2
                        go_roundw
                        case rel => exact ⟨k + 1, bk, hk2, by omega, HB2, by go_num, rfl, by rw [HS2.out], HT, HG, hb⟩
                        case measure => simp [intOf]; omega
                · have e : k = ps.length - 1 := by omega
                  have HF : Hid (mvB ms (ps.length - 1) = bk) := Lib.hid (by rw [← e]; exact HBK.out)
                  have hk3 : ¬ (k : Int) + 1 < (ps.length : Int) := by omega
                  clear HBK e HST HSC
                  go_wp2
                  try simp only [Exit.inBlock, Exit.then]
                  refine bodyPost_ret (results_tmp3 rfl _ _ _) rfl ?_
                  exact ⟨by rw [HF.out]; rfl, hb⟩
end Go.Proofs.YtjdcdhhbgijaoaaGreatDoor
namespace Go.Proofs.YtjdcdhhbgijaoaaGreatDoor
open Go.ChangeShapes Go.WideShapes Go.ChangeAt Go.RowKit Go.Sort

set_option maxRecDepth 100000 in
set_option maxHeartbeats 4000000 in
theorem scorables_any (x : Tls) (q : TlA) (b : Brd) (ps : List Ply) (a : Option Addr) (cap : Nat) (w : World) (ha : x.At q w) (hft : x.fit) (hxs : x.letters.size ≤ 1048576) (hf : b.fit) (hs : ∀ p ∈ ps, p.word.size ≤ 1048576) (hl : ps.length ≤ 9223372036854775807) (hE : CEnv w) (hp : SliceAt w 4 Ply.enc a ps) :
    Calls Tryz.prog 86 #[.agg #[.string x.letters, .slice q.values.a x.values.length q.values.c, .slice q.counts.a x.counts.length q.counts.c, .int .i64 x.blanks], .agg #[.int .i64 b.size, .string b.premium, .string b.cells], .slice a ps.length cap] w fun e w' => e = .returned (.bool (x.ok && (b.ok && allPlays b ps))) ∧ Below w.heap.size w w' := by
  obtain ⟨w2, hw2⟩ : ∃ w2, w2 = (w.alloc (.cells #[.string x.letters, .slice q.values.a x.values.length q.values.c, .slice q.counts.a x.counts.length q.counts.c, .int .i64 x.blanks] 44)).alloc (.cells #[.int .i64 b.size, .string b.premium, .string b.cells] 25) := ⟨_, rfl⟩
  have hb : Below w.heap.size w w2 := by rw [hw2]; exact ((Below.refl _ _).alloc (Nat.le_refl _) _).alloc (by simp) _
  have HT : Hid (TAt w2 w.heap.size x q) := by
    rw [hw2]
    exact Lib.hid ((TAt.new w x q 44 ha).kept ((Below.refl _ _).alloc (Nat.le_refl _) _))
  have HG : Hid (BAt w2 (w.heap.size + 1) 0 b) := by
    rw [hw2]
    have := BAt.new (w.alloc (.cells #[.string x.letters, .slice q.values.a x.values.length q.values.c, .slice q.counts.a x.counts.length q.counts.c, .int .i64 x.blanks] 44)) b 25
    simp only [World.size_alloc] at this
    exact Lib.hid this
  have HE := Lib.hid (hE.kept hb)
  have HP := Lib.hid (hp.kept hb)
  have HW2 := Lib.hid hw2
  have HVT : Hid (∀ W, x.At q W → Calls Tryz.prog 102 #[.agg #[.string x.letters, .slice q.values.a x.values.length q.values.c, .slice q.counts.a x.counts.length q.counts.c, .int .i64 x.blanks]] W fun e w' => e = .returned (.bool x.ok) ∧ Below W.heap.size W w') := Lib.hid (fun W h => ValidTiles_any x q W h hft hxs)
  clear hw2 ha hE hp
  cases hx : x.ok with
  | false =>
    rw [hx] at HVT
    go_enter Tryz.func86, Tryz.ntmps86
    go_upto_region 1 with fail
    rw [← HW2.out]
    clear HW2 hx
    obtain ⟨c0, c1, c2, c3⟩ := HT.out.1
    go_wp2_with fail
    refine (HVT.out _ HT.out.2).mono ?_
    rintro e w3 ⟨rfl, hd⟩
    have hb2 := hb.trans (hd.mono hb.size)
    clear hd c0 c1 c2 c3
    go_wp2
    go_ret
    exact ⟨rfl, hb2⟩
  | true =>
    rw [hx] at HVT
    cases hbo : b.ok with
    | false =>
      go_enter Tryz.func86, Tryz.ntmps86
      go_upto_region 1 with fail
      rw [← HW2.out]
      clear HW2 hx
      obtain ⟨c0, c1, c2, c3⟩ := HT.out.1
      go_wp2_with fail
      refine (HVT.out _ HT.out.2).mono ?_
      rintro e w3 ⟨rfl, hd⟩
      clear c0 c1 c2 c3
      replace hb := hb.trans (hd.mono hb.size)
      replace HG := Lib.hid (HG.out.kept hd)
      clear hd
      obtain ⟨b0, b1, b2⟩ := HG.out
      go_wp2_with fail
      refine (ValidBoard_any b _ hf).mono ?_
      rintro e w4 ⟨rfl, hd⟩
      rw [hbo]
      have hb2 := hb.trans (hd.mono hb.size)
      clear hd b0 b1 b2 hbo
      go_wp2
      go_ret
      exact ⟨rfl, hb2⟩
    | true =>
      obtain ⟨n, hgd⟩ := Brd.good hbo
      have HGD := Lib.hid hgd
      clear hgd
      go_enter Tryz.func86, Tryz.ntmps86
      go_upto_region 1 with fail
      rw [← HW2.out]
      clear HW2 hx
      obtain ⟨c0, c1, c2, c3⟩ := HT.out.1
      go_wp2_with fail
      refine (HVT.out _ HT.out.2).mono ?_
      rintro e w3 ⟨rfl, hd⟩
      clear c0 c1 c2 c3
      replace hb := hb.trans (hd.mono hb.size)
      replace HG := Lib.hid (HG.out.kept hd)
      replace HE := Lib.hid (HE.out.kept hd)
      replace HP := Lib.hid (HP.out.kept hd)
      clear hd
      obtain ⟨b0, b1, b2⟩ := HG.out
      go_wp2_with fail
      refine (ValidBoard_any b _ hf).mono ?_
      rintro e w4 ⟨rfl, hd⟩
      rw [hbo]
      clear b0 b1 b2 hbo
      replace hb := hb.trans (hd.mono hb.size)
      replace HG := Lib.hid (HG.out.kept hd)
      replace HE := Lib.hid (HE.out.kept hd)
      replace HP := Lib.hid (HP.out.kept hd)
      clear hd
      go_wp2_with fail
      refine (containsFns_any b ps n _ a cap _ HGD.out hs hl HE.out HG.out HP.out).mono ?_
      rintro e w5 ⟨rfl, hd⟩
      have hb2 := hb.trans (hd.mono hb.size)
      clear hd
      go_wp2
      go_ret
      exact ⟨ret_bool (by simp), hb2⟩
end Go.Proofs.YtjdcdhhbgijaoaaGreatDoor
namespace Go.Proofs.YtjdcdhhbgijaoaaGreatDoor
open Go.ChangeShapes Go.WideShapes Go.ChangeAt Go.RowKit Go.Sort

/-- the value of a board, and a code -/
def faceOut (x : Tls) (b : Brd) : Int × Int := if x.ok && b.ok then (b.face x, 0) else (0, 1)
theorem face_no {x : Tls} {b : Brd} (h : (x.ok && b.ok) = false) : faceOut x b = (0, 1) := by unfold faceOut; rw [h]; rfl
theorem face_yes {x : Tls} {b : Brd} (h : (x.ok && b.ok) = true) : faceOut x b = (b.face x, 0) := by unfold faceOut; rw [h]; rfl
theorem cells_few {b : Brd} (h : b.ok = true) : b.cells.size ≤ 225 := by
  obtain ⟨n, hn⟩ := Brd.good h
  have := sq_mono hn.hi
  have := hn.cells
  omega
theorem letters_few {b : Brd} (h : b.ok = true) : (mkB (lettersL b.cells.data.toList)).size ≤ 1048576 := by
  have h1 := cells_few h
  rw [mkB_size]
  unfold lettersL
  have := List.length_filter_le (fun c : UInt8 => c != 46) b.cells.data.toList
  have e : b.cells.data.toList.length = b.cells.size := Array.length_toList
  omega
set_option maxRecDepth 100000 in
set_option maxHeartbeats 4000000 in
theorem FaceValue_any (x : Tls) (q : TlA) (b : Brd) (w : World) (ha : x.At q w) (hft : x.fit) (hxs : x.letters.size ≤ 1048576) (hf : b.fit) (hE : CEnv w) (hL : EnvL w) :
    Calls Tryz.prog 38 #[.agg #[.string x.letters, .slice q.values.a x.values.length q.values.c, .slice q.counts.a x.counts.length q.counts.c, .int .i64 x.blanks], .agg #[.int .i64 b.size, .string b.premium, .string b.cells]] w fun e w' => e = .returned (.tuple #[.int .i64 (faceOut x b).1, .int .i64 (faceOut x b).2]) ∧ Below w.heap.size w w' := by
  obtain ⟨w2, hw2⟩ : ∃ w2, w2 = (w.alloc (.cells #[.string x.letters, .slice q.values.a x.values.length q.values.c, .slice q.counts.a x.counts.length q.counts.c, .int .i64 x.blanks] 44)).alloc (.cells #[.int .i64 b.size, .string b.premium, .string b.cells] 25) := ⟨_, rfl⟩
  have hb : Below w.heap.size w w2 := by rw [hw2]; exact ((Below.refl _ _).alloc (Nat.le_refl _) _).alloc (by simp) _
  have VT : Hid (VarAt w2 w.heap.size 44 [.string x.letters, .slice q.values.a x.values.length q.values.c, .slice q.counts.a x.counts.length q.counts.c, .int .i64 x.blanks]) := by
    rw [hw2]
    exact Lib.hid ((VarAt.new w 44 [.string x.letters, .slice q.values.a x.values.length q.values.c, .slice q.counts.a x.counts.length q.counts.c, .int .i64 x.blanks]).kept ((Below.refl _ _).alloc (Nat.le_refl _) _))
  have VB : Hid (VarAt w2 (w.heap.size + 1) 25 [.int .i64 b.size, .string b.premium, .string b.cells]) := by
    rw [hw2]
    have := VarAt.new (w.alloc (.cells #[.string x.letters, .slice q.values.a x.values.length q.values.c, .slice q.counts.a x.counts.length q.counts.c, .int .i64 x.blanks] 44)) 25 [.int .i64 b.size, .string b.premium, .string b.cells]
    simp only [World.size_alloc] at this
    exact Lib.hid this
  have HA := Lib.hid (ha.kept hb)
  have HE := Lib.hid (hE.kept hb)
  have HL := Lib.hid (hL.kept hb)
  have HW2 := Lib.hid hw2
  clear hw2 ha hE hL
  have HSC : Hid (∀ W, x.At q W → CEnv W → Calls Tryz.prog 86 #[.agg #[.string x.letters, .slice q.values.a x.values.length q.values.c, .slice q.counts.a x.counts.length q.counts.c, .int .i64 x.blanks], .agg #[.int .i64 b.size, .string b.premium, .string b.cells], .slice none 0 0] W fun e w' => e = .returned (.bool (x.ok && b.ok)) ∧ Below W.heap.size W w') := Lib.hid (fun W h1 h2 => by
    have := scorables_any x q b [] none 0 W h1 hft hxs hf (fun p hp => by cases hp) (by decide) h2 (.inl rfl)
    have e : (x.ok && (b.ok && allPlays b [])) = (x.ok && b.ok) := by
      show (x.ok && (b.ok && true)) = _
      rw [Bool.and_true]
    rw [e] at this
    exact this)
  cases hk : (x.ok && b.ok) with
  | false =>
    rw [face_no hk]
    rw [hk] at HSC
    go_enter Tryz.func38, Tryz.ntmps38
    go_upto_region 1 with fail
    rw [← HW2.out]
    clear HW2
    have t0 := VT.out.cell (i := 0) rfl
    have t1 := VT.out.cell (i := 1) rfl
    have t2 := VT.out.cell (i := 2) rfl
    have t3 := VT.out.cell (i := 3) rfl
    have b0 := VB.out.cell (i := 0) rfl
    have b1 := VB.out.cell (i := 1) rfl
    have b2 := VB.out.cell (i := 2) rfl
    go_wp2_with fail
    refine (HSC.out _ HA.out HE.out).mono ?_
    rintro e w3 ⟨rfl, hd⟩
    have hb2 := hb.trans (hd.mono hb.size)
    clear hd t0 t1 t2 t3 b0 b1 b2
    go_wp2
    go_ret2
    exact ⟨rfl, hb2⟩
  | true =>
    obtain ⟨hx, hbk⟩ := (Bool.and_eq_true _ _ ▸ hk : x.ok = true ∧ b.ok = true)
    have HLV := Lib.hid (fun s W h hs => lettersValue_any x q s W h (Tls.good hx) hs)
    have HON : Hid (∀ W, EnvL W → Calls Tryz.prog 115 #[.agg #[.int .i64 b.size, .string b.premium, .string b.cells]] W fun e w' => e = .returned (.string (mkB (lettersL b.cells.data.toList))) ∧ Below W.heap.size W w') := Lib.hid (fun W e => lettersOn_any b W (cells_few hbk) e)
    have HFW := Lib.hid (letters_few hbk)
    rw [face_yes hk]
    unfold Brd.face
    simp only
    rw [hk] at HSC
    clear hk hx hbk
    generalize mkB (lettersL b.cells.data.toList) = LL at *
    have HLV2 := Lib.hid (fun W h => HLV.out LL W h HFW.out)
    clear HLV HFW
    generalize x.sum LL = sm at *
    go_enter Tryz.func38, Tryz.ntmps38
    go_upto_region 1 with fail
    rw [← HW2.out]
    clear HW2
    have t0 := VT.out.cell (i := 0) rfl
    have t1 := VT.out.cell (i := 1) rfl
    have t2 := VT.out.cell (i := 2) rfl
    have t3 := VT.out.cell (i := 3) rfl
    have b0 := VB.out.cell (i := 0) rfl
    have b1 := VB.out.cell (i := 1) rfl
    have b2 := VB.out.cell (i := 2) rfl
    go_wp2_with fail
    refine (HSC.out _ HA.out HE.out).mono ?_
    rintro e w3 ⟨rfl, hd⟩
    clear t0 t1 t2 t3 b0 b1 b2 HSC
    replace VT := Lib.hid (VT.out.kept hd)
    replace VB := Lib.hid (VB.out.kept hd)
    replace HA := Lib.hid (HA.out.kept hd)
    replace HL := Lib.hid (HL.out.kept hd)
    replace hb := hb.trans (hd.mono hb.size)
    clear hd HE
    go_upto_region 3 with fail
    have t0 := VT.out.cell (i := 0) rfl
    have t1 := VT.out.cell (i := 1) rfl
    have t2 := VT.out.cell (i := 2) rfl
    have t3 := VT.out.cell (i := 3) rfl
    have b0 := VB.out.cell (i := 0) rfl
    have b1 := VB.out.cell (i := 1) rfl
    have b2 := VB.out.cell (i := 2) rfl
    have et0 := cell_regrown t0
    have et1 := cell_regrown t1
    have et2 := cell_regrown t2
    have et3 := cell_regrown t3
    have eb0 := cell_regrown b0
    have eb1 := cell_regrown b1
    have eb2 := cell_regrown b2
    refine wp_region_quiet_below (by kernel_rfl) (by kernel_rfl) ?_
    repeat (go_big_quiet_step ((first
      | (go_at_call 115; exact Calls.regrown_of (HON.out _ (HL.out.kept (below_regrown _ _ _))))
      | (go_at_call 103; exact Calls.regrown_of (HLV2.out _ (HA.out.kept (below_regrown _ _ _)))))))
    refine wpQuiet_nil ?_
    intro wF hw'
    have hd : Below w3.heap.size w3 wF := below_of_ex hw'
    have hb9 := hb.trans (hd.mono hb.size)
    clear hw' et0 et1 et2 et3 eb0 eb1 eb2 t0 t1 t2 t3 b0 b1 b2 hd hb VT VB
    go_wp2
    go_ret2
    exact ⟨rfl, hb9⟩
set_option maxRecDepth 100000 in
set_option maxHeartbeats 4000000 in
theorem specFaceValue_any (x : Tls) (q : TlA) (b : Brd) (w : World) (ha : x.At q w) (hft : x.fit) (hf : b.fit) :
    Calls Tryz.prog 39 #[.agg #[.string x.letters, .slice q.values.a x.values.length q.values.c, .slice q.counts.a x.counts.length q.counts.c, .int .i64 x.blanks], .agg #[.int .i64 b.size, .string b.premium, .string b.cells]] w fun e w' => e = .returned (.tuple #[.int .i64 (faceOut x b).1, .int .i64 (faceOut x b).2]) ∧ Below w.heap.size w w' := by
  obtain ⟨w2, hw2⟩ : ∃ w2, w2 = (w.alloc (.cells #[.string x.letters, .slice q.values.a x.values.length q.values.c, .slice q.counts.a x.counts.length q.counts.c, .int .i64 x.blanks] 44)).alloc (.cells #[.int .i64 b.size, .string b.premium, .string b.cells] 25) := ⟨_, rfl⟩
  have hb : Below w.heap.size w w2 := by rw [hw2]; exact ((Below.refl _ _).alloc (Nat.le_refl _) _).alloc (by simp) _
  have HT : Hid (TAt w2 w.heap.size x q) := by
    rw [hw2]
    exact Lib.hid ((TAt.new w x q 44 ha).kept ((Below.refl _ _).alloc (Nat.le_refl _) _))
  have HG : Hid (BAt w2 (w.heap.size + 1) 0 b) := by
    rw [hw2]
    have := BAt.new (w.alloc (.cells #[.string x.letters, .slice q.values.a x.values.length q.values.c, .slice q.counts.a x.counts.length q.counts.c, .int .i64 x.blanks] 44)) b 25
    simp only [World.size_alloc] at this
    exact Lib.hid this
  have HW2 := Lib.hid hw2
  clear hw2 ha
  cases hx : x.ok with
  | false =>
    rw [face_no (by rw [hx]; rfl)]
    go_enter Tryz.func39, Tryz.ntmps39
    go_upto_region 1 with fail
    rw [← HW2.out]
    clear HW2
    go_wp2_with fail
    refine (l02Ok_any x q _ _ HT.out hft).mono ?_
    rintro e w3 ⟨rfl, hdq⟩
    rw [hx]
    have hb2 := hb.trans (hdq.bels.mono hb.size)
    clear hdq hx
    go_wp2
    go_ret2
    exact ⟨rfl, hb2⟩
  | true =>
    cases hk : b.ok with
    | false =>
      rw [face_no (by rw [hx, hk]; rfl)]
      go_enter Tryz.func39, Tryz.ntmps39
      go_upto_region 1 with fail
      rw [← HW2.out]
      clear HW2
      go_wp2_with fail
      refine (l02Ok_any x q _ _ HT.out hft).mono ?_
      rintro e w3 ⟨rfl, hdq⟩
      rw [hx]
      have hd := hdq.bels
      replace HG := Lib.hid (HG.out.kept hd)
      replace hb := hb.trans (hd.mono hb.size)
      clear hdq hx hd
      go_wp2_with fail
      refine (l11Ok_any b _ 0 _ HG.out hf).mono ?_
      rintro e w4 ⟨rfl, hdq⟩
      rw [hk]
      have hb2 := hb.trans (hdq.bels.mono hb.size)
      clear hdq hk
      go_wp2
      go_ret2
      exact ⟨rfl, hb2⟩
    | true =>
      have HFW := Lib.hid (letters_few hk)
      have HLT : Hid (∀ W, BAt W (w.heap.size + 1) 0 b → Calls Tryz.prog 117 #[.pointer (some ⟨w.heap.size + 1, 0, none⟩)] W fun e w' => e = .returned (.string (mkB (lettersL b.cells.data.toList))) ∧ Below W.heap.size W w') := Lib.hid (fun W h => l11Letters_any b (w.heap.size + 1) 0 W h (cells_few hk))
      have HSU := Lib.hid (fun s W h hs => l02Sum_any x q w.heap.size s W h (Tls.good hx) hs)
      rw [face_yes (by rw [hx, hk]; rfl)]
      unfold Brd.face
      simp only
      generalize mkB (lettersL b.cells.data.toList) = LL at *
      have HSU2 := Lib.hid (fun W h => HSU.out LL W h HFW.out)
      clear HSU HFW
      generalize x.sum LL = sm at *
      go_enter Tryz.func39, Tryz.ntmps39
      go_upto_region 1 with fail
      rw [← HW2.out]
      clear HW2
      go_wp2_with fail
      refine (l02Ok_any x q _ _ HT.out hft).mono ?_
      rintro e w3 ⟨rfl, hdq⟩
      rw [hx]
      have hd := hdq.bels
      replace HG := Lib.hid (HG.out.kept hd)
      replace HT := Lib.hid (HT.out.kept hd)
      replace hb := hb.trans (hd.mono hb.size)
      clear hdq hx hd
      go_wp2_with fail
      refine (l11Ok_any b _ 0 _ HG.out hf).mono ?_
      rintro e w4 ⟨rfl, hdq⟩
      rw [hk]
      have hd := hdq.bels
      replace HG := Lib.hid (HG.out.kept hd)
      replace HT := Lib.hid (HT.out.kept hd)
      replace hb := hb.trans (hd.mono hb.size)
      clear hdq hk hd
      go_wp2_with fail
      refine (HLT.out _ HG.out).mono ?_
      rintro e w5 ⟨rfl, hd⟩
      replace HT := Lib.hid (HT.out.kept hd)
      replace hb := hb.trans (hd.mono hb.size)
      clear hd HG HLT
      go_wp2_with fail
      refine (HSU2.out _ HT.out).mono ?_
      rintro e w6 ⟨rfl, rfl⟩
      clear HT HSU2
      go_wp2
      go_ret2
      exact ⟨rfl, hb⟩
/-- the value of letters -/
def sumOut (x : Tls) (s : ByteArray) : Int := if x.ok then x.sum s else 0
set_option maxRecDepth 100000 in
set_option maxHeartbeats 4000000 in
theorem LettersValue_any (x : Tls) (q : TlA) (s : ByteArray) (w : World) (ha : x.At q w) (hft : x.fit) (hxs : x.letters.size ≤ 1048576) (hs : s.size ≤ 1048576) :
    Calls Tryz.prog 34 #[.agg #[.string x.letters, .slice q.values.a x.values.length q.values.c, .slice q.counts.a x.counts.length q.counts.c, .int .i64 x.blanks], .string s] w fun e w' => e = .returned (.int .i64 (sumOut x s)) ∧ Below w.heap.size w w' := by
  have hb : Below w.heap.size w (w.alloc (.cells #[.string x.letters, .slice q.values.a x.values.length q.values.c, .slice q.counts.a x.counts.length q.counts.c, .int .i64 x.blanks] 44)) := (Below.refl _ _).alloc (Nat.le_refl _) _
  have VT := Lib.hid (VarAt.new w 44 [.string x.letters, .slice q.values.a x.values.length q.values.c, .slice q.counts.a x.counts.length q.counts.c, .int .i64 x.blanks])
  have HA := Lib.hid (ha.kept hb)
  clear ha
  have HVT := Lib.hid (fun W h => ValidTiles_any x q W h hft hxs)
  have HLV := Lib.hid (fun W h (hx : x.ok = true) => lettersValue_any x q s W h (Tls.good hx) hs)
  cases hx : x.ok with
  | false =>
    have hz : sumOut x s = 0 := by unfold sumOut; rw [hx]; rfl
    rw [hz]
    rw [hx] at HVT
    go_enter Tryz.func34, Tryz.ntmps34
    go_upto_region 1 with fail
    generalize w.alloc (.cells #[.string x.letters, .slice q.values.a x.values.length q.values.c, .slice q.counts.a x.counts.length q.counts.c, .int .i64 x.blanks] 44) = w1 at *
    have t0 := VT.out.cell (i := 0) rfl
    have t1 := VT.out.cell (i := 1) rfl
    have t2 := VT.out.cell (i := 2) rfl
    have t3 := VT.out.cell (i := 3) rfl
    go_wp2_with fail
    refine (HVT.out _ HA.out).mono ?_
    rintro e w3 ⟨rfl, hd⟩
    have hb2 := hb.trans (hd.mono hb.size)
    clear hd t0 t1 t2 t3
    go_wp2
    go_ret
    exact ⟨rfl, hb2⟩
  | true =>
    have hz : sumOut x s = x.sum s := by unfold sumOut; rw [hx]; rfl
    rw [hz]
    rw [hx] at HVT
    have HL2 := Lib.hid (fun W h => HLV.out W h hx)
    clear HLV
    generalize x.sum s = v at *
    go_enter Tryz.func34, Tryz.ntmps34
    go_upto_region 1 with fail
    generalize w.alloc (.cells #[.string x.letters, .slice q.values.a x.values.length q.values.c, .slice q.counts.a x.counts.length q.counts.c, .int .i64 x.blanks] 44) = w1 at *
    have t0 := VT.out.cell (i := 0) rfl
    have t1 := VT.out.cell (i := 1) rfl
    have t2 := VT.out.cell (i := 2) rfl
    have t3 := VT.out.cell (i := 3) rfl
    go_wp2_with fail
    refine (HVT.out _ HA.out).mono ?_
    rintro e w3 ⟨rfl, hd⟩
    clear t0 t1 t2 t3
    replace VT := Lib.hid (VT.out.kept hd)
    replace HA := Lib.hid (HA.out.kept hd)
    replace hb := hb.trans (hd.mono hb.size)
    clear hd
    have t0 := VT.out.cell (i := 0) rfl
    have t1 := VT.out.cell (i := 1) rfl
    have t2 := VT.out.cell (i := 2) rfl
    have t3 := VT.out.cell (i := 3) rfl
    go_wp2_with fail
    refine (HL2.out _ HA.out).mono ?_
    rintro e w4 ⟨rfl, hd⟩
    have hb2 := hb.trans (hd.mono hb.size)
    clear hd t0 t1 t2 t3
    go_wp2
    go_ret
    exact ⟨rfl, hb2⟩
end Go.Proofs.YtjdcdhhbgijaoaaGreatDoor
namespace Go.Proofs.YtjdcdhhbgijaoaaGreatDoor
open Go.ChangeShapes Go.WideShapes Go.ChangeAt Go.RowKit Go.Sort

theorem infoMove : (Tryz.prog.info? 125).map (fun i => (i.zero, i.size, i.bytes)) = some (some (.agg #[.int .i64 0, .int .i64 0, .bool false, .string ⟨#[]⟩, .int .i64 0]), 5, 48) := by kernel_rfl
theorem mvEnc_len (m : Mv) : (mvEnc m).length = 5 := rfl
theorem new_move (w : World) (s : Int) (a : Ply) (t : TypeId) : ∀ j u, (mcells s a)[j]? = some u → (w.alloc (.cells #[.int .i64 a.row, .int .i64 a.col, .bool a.down, .string a.word, .int .i64 s] t)).cell? ((⟨w.heap.size, 0, none⟩ : Addr).add j) = some u := by
  intro j u hu
  rw [Go.Addr.add_lit, Nat.zero_add]
  exact (VarAt.new w t (mcells s a)).cell hu
theorem scored_take {x : Tls} {b : Brd} {ps : List Ply} {k : Nat} (h : k < ps.length) : ((scored x b ps).take (k + 1)).flatMap mvEnc = ((scored x b ps).take k).flatMap mvEnc ++ mcells (mvS (scored x b ps) k) ps[k] := by
  have h2 : k < (scored x b ps).length := by rw [scored_len]; exact h
  have e : (scored x b ps)[k] = (b.score ps[k] x, ps[k]) := by simp [scored]
  rw [List.take_succ_eq_append_getElem h2, snoc_flat mvEnc, scored_S h, e]
  rfl
def tcells (x : Tls) (q : TlA) : List Value := [.string x.letters, .slice q.values.a x.values.length q.values.c, .slice q.counts.a x.counts.length q.counts.c, .int .i64 x.blanks]
def bcells (b : Brd) : List Value := [.int .i64 b.size, .string b.premium, .string b.cells]
def pzero : List Value := [.int .i64 0, .int .i64 0, .bool false, .string ⟨#[]⟩]
theorem size_ply (p : Ply) : (Tryz.prog.info? 30).map (·.size) = some (Ply.enc p).length := by kernel_rfl
theorem ply_one (p : Ply) : ∀ v ∈ Ply.enc p, v.oneCell' = true := by
  intro v hv
  simp only [Ply.enc, List.mem_cons, List.not_mem_nil, or_false] at hv
  rcases hv with rfl | rfl | rfl | rfl <;> rfl
set_option maxRecDepth 100000 in
set_option maxHeartbeats 8000000 in
theorem implBestPlay_any (x : Tls) (q : TlA) (b : Brd) (ps : List Ply) (a : Option Addr) (cap : Nat) (w : World) (ha : x.At q w) (hft : x.fit) (hxs : x.letters.size ≤ 1048576) (hf : b.fit) (hs : ∀ p ∈ ps, p.word.size ≤ 1048576) (hl : ps.length ≤ 1048576) (hE : CEnv w) (hm : SliceAt w 4 Ply.enc a ps) :
    Calls Tryz.prog 36 #[.agg #[.string x.letters, .slice q.values.a x.values.length q.values.c, .slice q.counts.a x.counts.length q.counts.c, .int .i64 x.blanks], .agg #[.int .i64 b.size, .string b.premium, .string b.cells], .slice a ps.length cap] w (BestPost x b ps w) := by
  obtain ⟨i0, hi0, hi1, hi2, hi3⟩ := info_parts infoMove
  obtain ⟨w2, hw2⟩ : ∃ w2, w2 = (w.alloc (.cells #[.string x.letters, .slice q.values.a x.values.length q.values.c, .slice q.counts.a x.counts.length q.counts.c, .int .i64 x.blanks] 44)).alloc (.cells #[.int .i64 b.size, .string b.premium, .string b.cells] 25) := ⟨_, rfl⟩
  have hb : Below w.heap.size w w2 := by rw [hw2]; exact ((Below.refl _ _).alloc (Nat.le_refl _) _).alloc (by simp) _
  have hz2 : w.heap.size + 2 ≤ w2.heap.size := by rw [hw2]; simp
  have HT : Hid (TAt w2 w.heap.size x q) := by
    rw [hw2]
    exact Lib.hid ((TAt.new w x q 44 ha).kept ((Below.refl _ _).alloc (Nat.le_refl _) _))
  have HG : Hid (BAt w2 (w.heap.size + 1) 0 b) := by
    rw [hw2]
    have := BAt.new (w.alloc (.cells #[.string x.letters, .slice q.values.a x.values.length q.values.c, .slice q.counts.a x.counts.length q.counts.c, .int .i64 x.blanks] 44)) b 25
    simp only [World.size_alloc] at this
    exact Lib.hid this
  have VT : Hid (VarAt w2 w.heap.size 44 (tcells x q)) := by
    rw [hw2]
    exact Lib.hid ((VarAt.new w 44 (tcells x q)).kept ((Below.refl _ _).alloc (Nat.le_refl _) _))
  have VB : Hid (VarAt w2 (w.heap.size + 1) 25 (bcells b)) := by
    rw [hw2]
    have := VarAt.new (w.alloc (.cells #[.string x.letters, .slice q.values.a x.values.length q.values.c, .slice q.counts.a x.counts.length q.counts.c, .int .i64 x.blanks] 44)) 25 (bcells b)
    simp only [World.size_alloc] at this
    exact Lib.hid this
  have HXA := Lib.hid ha
  have HW2 := Lib.hid hw2
  have HM := Lib.hid hm
  have HE := Lib.hid hE
  have HSB : Hid (∀ W, x.At q W → CEnv W → SliceAt W 4 Ply.enc a ps → Calls Tryz.prog 86 #[.agg #[.string x.letters, .slice q.values.a x.values.length q.values.c, .slice q.counts.a x.counts.length q.counts.c, .int .i64 x.blanks], .agg #[.int .i64 b.size, .string b.premium, .string b.cells], .slice a ps.length cap] W fun e w' => e = .returned (.bool (x.ok && (b.ok && allPlays b ps))) ∧ Below W.heap.size W w') := Lib.hid (fun W h h2 h3 => scorables_any x q b ps a cap W h hft hxs hf hs (by omega) h2 h3)
  clear hw2 ha hm hE hf hft hxs hs
  cases hsc : (x.ok && (b.ok && allPlays b ps)) with
  | false =>
    refine Calls.mono (R := fun e w' => e = .returned (.tuple #[.int .i64 0, .int .i64 0, .int .i64 1]) ∧ Below w.heap.size w w') ?_ (best_no hsc)
    rw [hsc] at HSB
    clear hsc
    go_enter Tryz.func36, Tryz.ntmps36
    go_upto_region 1 with fail
    rw [← HW2.out]
    clear HW2
    obtain ⟨c0, c1, c2, c3⟩ := HT.out.1
    obtain ⟨b0, b1, b2⟩ := HG.out
    go_wp2_with fail
    refine (HSB.out _ HT.out.2 (HE.out.kept hb) (HM.out.kept hb)).mono ?_
    rintro e w3 ⟨rfl, hd⟩
    replace hb := hb.trans (hd.mono hb.size)
    clear hd c0 c1 c2 c3 b0 b1 b2
    go_wp2
    try simp only [Exit.inBlock, Exit.then]
    refine bodyPost_ret (results_tmp3 rfl _ _ _) rfl ?_
    exact ⟨rfl, hb⟩
  | true =>
    rw [hsc] at HSB
    have e0' : (ps.length = 0) ∨ ¬ (ps.length = 0) := by omega
    rcases e0' with h0 | h0
    · refine Calls.mono (R := fun e w' => e = .returned (.tuple #[.int .i64 0, .int .i64 0, .int .i64 3]) ∧ Below w.heap.size w w') ?_ (best_none hsc h0)
      have H0 := Lib.hid h0
      clear hsc h0
      go_enter Tryz.func36, Tryz.ntmps36
      go_upto_region 1 with fail
      rw [← HW2.out]
      clear HW2
      obtain ⟨c0, c1, c2, c3⟩ := HT.out.1
      obtain ⟨b0, b1, b2⟩ := HG.out
      go_wp2_with fail
      refine (HSB.out _ HT.out.2 (HE.out.kept hb) (HM.out.kept hb)).mono ?_
      rintro e w3 ⟨rfl, hd⟩
      replace hb := hb.trans (hd.mono hb.size)
      clear hd c0 c1 c2 c3 b0 b1 b2
      have e0 : ((ps.length : Int) == 0) = true := by rw [H0.out]; rfl
      go_wp2
      try simp only [Exit.inBlock, Exit.then]
      refine bodyPost_ret (results_tmp3 rfl _ _ _) rfl ?_
      exact ⟨rfl, hb⟩
    · refine Calls.mono (R := fun e w' => e = .returned (.tuple #[.int .i64 (mvB (scored x b ps) (ps.length - 1) : Nat), .int .i64 (mvS (scored x b ps) (mvB (scored x b ps) (ps.length - 1))), .int .i64 0]) ∧ Below w.heap.size w w') ?_ (best_some hsc h0)
      have e0 : ((ps.length : Int) == 0) = false := by rw [beq_eq_false_iff_ne]; omega
      have HSC : Hid (∀ k (hk : k < ps.length) W, x.At q W → Calls Tryz.prog 87 #[.agg #[.string x.letters, .slice q.values.a x.values.length q.values.c, .slice q.counts.a x.counts.length q.counts.c, .int .i64 x.blanks], .agg #[.int .i64 b.size, .string b.premium, .string b.cells], .agg #[.int .i64 ps[k].row, .int .i64 ps[k].col, .bool ps[k].down, .string ps[k].word]] W fun e w' => e = .returned (.int .i64 (mvS (scored x b ps) k)) ∧ Below W.heap.size W w') := Lib.hid (fun k hk W h => by
        rw [Bool.and_eq_true, Bool.and_eq_true] at hsc
        have h1 := hsc.2.2
        unfold allPlays at h1
        obtain ⟨n, hpg⟩ := okPlay_good ((List.all_eq_true.1 h1) _ (List.getElem_mem hk))
        rw [scored_S hk]
        exact scorePlay_any x q b ps[k] n W h (Tls.good hsc.1) hpg)
      have HTK : Hid (∀ k (hk : k < ps.length), ((scored x b ps).take (k + 1)).flatMap mvEnc = ((scored x b ps).take k).flatMap mvEnc ++ mcells (mvS (scored x b ps) k) ps[k]) := Lib.hid (fun k hk => scored_take hk)
      have HLN := Lib.hid (scored_len x b ps)
      have H1C := Lib.hid mcells_one
      clear hsc
      generalize scored x b ps = ms at *
      go_enter Tryz.func36, Tryz.ntmps36
      go_upto_region 1 with fail
      rw [← HW2.out]
      clear HW2
      obtain ⟨c0, c1, c2, c3⟩ := HT.out.1
      obtain ⟨b0, b1, b2⟩ := HG.out
      go_wp2_with fail
      refine (HSB.out _ HT.out.2 (HE.out.kept hb) (HM.out.kept hb)).mono ?_
      rintro e w3 ⟨rfl, hd⟩
      have hz3 := Nat.le_trans hz2 hd.size
      clear c0 c1 c2 c3 b0 b1 b2 HSB hz2
      clear HT HG
      replace hb := hb.trans (hd.mono hb.size)
      replace VT := Lib.hid (VT.out.kept hd)
      replace VB := Lib.hid (VB.out.kept hd)
      clear hd
      have HO : Hid ((w3.alloc (.cells #[] 125)).ownsRow (w.heap.size + 2) 125 5 (.slice (some ⟨w3.heap.size, 0, none⟩) 0 0) 0 ((ms.take 0).flatMap mvEnc)) := Lib.hid (World.ownsRow_made (base := w.heap.size + 2) (e := 125) (size := 5) w3 #[] 0 hz3 (by unfold maxLen; omega) rfl)
      have hd : Below w3.heap.size w3 (w3.alloc (.cells #[] 125)) := (Below.refl _ _).alloc (Nat.le_refl _) _
      have hz4 := Nat.le_trans hz3 hd.size
      replace hb := hb.trans (hd.mono hb.size)
      replace VT := Lib.hid (VT.out.kept hd)
      replace VB := Lib.hid (VB.out.kept hd)
      clear hd
      clear hz3
      go_upto_region 7 with fail
      generalize w3.alloc (.cells #[] 125) = w4 at *
      generalize w3.heap.size = g0 at *
      go_loopw [9, 11, 24] (fun mv _ iv wr => ∃ k g cp : Nat, k ≤ ps.length ∧ iv = .int .i64 k ∧ mv = .slice (some ⟨g, 0, none⟩) k cp ∧ Hid (wr.ownsRow (w.heap.size + 2) 125 5 (.slice (some ⟨g, 0, none⟩) k cp) k ((ms.take k).flatMap mvEnc)) ∧ w.heap.size + 2 ≤ wr.heap.size ∧ Hid (VarAt wr w.heap.size 44 (tcells x q)) ∧ Hid (VarAt wr (w.heap.size + 1) 25 (bcells b)) ∧ Below w.heap.size w wr) (fun _ _ iv _ => ps.length - (intOf iv).toNat)
      case atStart => exact ⟨0, g0, 0, Nat.zero_le _, rfl, rfl, HO, hz4, VT, VB, hb⟩
      case round =>
        clear HO VT VB hb hz4
        obtain ⟨k, g, cp, hk, rfl, rfl, HO, hz, VT, VB, hb⟩ := hrel
        by_cases hk2 : k < ps.length
        · have HGL : Hid (w.heap.size + 2 ≤ g ∧ g < wr.heap.size) := Lib.hid (HO.out.lt g rfl)
          obtain ⟨b', o', rfl, c1⟩ := ply_cells HM.out hk2
          have c10 := cell_kept (c1 0 _ rfl) hb
          have c11 := cell_kept (c1 1 _ rfl) hb
          have c12 := cell_kept (c1 2 _ rfl) hb
          have c13 := cell_kept (c1 3 _ rfl) hb
          rw [Nat.add_zero] at c10
          have hk0 : (0 : Int) ≤ (k : Int) := by omega
          have hk3 : (k : Int) < (ps.length : Int) := by omega
          have HC := Lib.hid (HSC.out k hk2)
          have HTk := Lib.hid (HTK.out k hk2)
          clear c1 HTK HSC
          generalize ps[k] = pk at *
          generalize mvS ms k = sk at *
          have V6 := VarAt.new wr 30 pzero
          obtain ⟨o6, k6⟩ := V6.put (Ply.enc pk) rfl
          have tR := V6.there (n := (Ply.enc pk).length) rfl
          have hd : Below wr.heap.size wr ((wr.alloc (.cells pzero.toArray 30)).setCells wr.heap.size 0 (Ply.enc pk)) := ((Below.refl _ _).alloc (Nat.le_refl _) _).grown k6 (by simp) (fun q h => by cases h; exact Nat.le_refl _)
          have VP := Lib.hid o6
          clear V6 o6 k6
          go_upto_region 8 with fail
          go_upto_region 9 with (refine wpList_store_mid rfl 30 _ _ rfl wr.heap.size 0 (Ply.enc pk).toArray rfl rfl tR (size_ply pk) (all_oneCell_toArray (ply_one pk)) ?_)
          clear tR c10 c11 c12 c13
          change Code.wp _ _ _ _ ((wr.alloc (.cells pzero.toArray 30)).setCells wr.heap.size 0 (Ply.enc pk))
          have hz6 := Nat.le_trans hz hd.size
          generalize (wr.alloc (.cells pzero.toArray 30)).setCells wr.heap.size 0 (Ply.enc pk) = w6 at *
          generalize hx1 : wr.heap.size = x1 at *
          subst hx1
          replace hb := hb.trans (hd.mono hb.size)
          replace HO := Lib.hid (own_below HO.out hd)
          replace VT := Lib.hid (VT.out.kept hd)
          replace VB := Lib.hid (VB.out.kept hd)
          clear hd
          clear hz
          have hd : Below w6.heap.size w6 w6.drew := (Below.refl _ _).drew
          have hz7 := Nat.le_trans hz6 hd.size
          replace hb := hb.trans (hd.mono hb.size)
          replace HO := Lib.hid (own_below HO.out hd)
          replace VT := Lib.hid (VT.out.kept hd)
          replace VB := Lib.hid (VB.out.kept hd)
          replace VP := Lib.hid (VP.out.kept hd)
          clear hd
          clear hz6
          have rP := VP.out.range
          have rT : w6.drew.rangeAt w.heap.size 0 (tcells x q) := VT.out.range
          have rB : w6.drew.rangeAt (w.heap.size + 1) 0 (bcells b) := VB.out.range
          refine wp_region_held_drew (S := fun w' => w'.rangeAt wr.heap.size 0 (Ply.enc pk) ∧ w'.rangeAt w.heap.size 0 (tcells x q) ∧ w'.rangeAt (w.heap.size + 1) 0 (bcells b)) (by kernel_rfl) ⟨rP, rT, rB⟩ (fun hHeld => ?_)
          generalize w6.drew = wd at *
          clear rP rT rB
          refine wpAnyH_take (i := 0) (oi := _) (v := .slice (some ⟨g, 0, none⟩) k cp) rfl (by kernel_rfl) (by kernel_rfl) (by kernel_rfl) (fun _ _ _ h => h) (Or.inl ⟨by rfl, fun w' _ => by go_simp⟩) (by assumption) ?_
          simp only [Act.put, List.setIfInBounds_toArray]
          refine wpAnyH_take (i := 1) (oi := _) (v := _) rfl (by kernel_rfl) (by kernel_rfl) (by kernel_rfl) (fun _ _ _ h => h) (yieldsIf_load_mid (by rfl) 30 _ rfl wr.heap.size 0 rfl [.int .i64 pk.row, .int .i64 pk.col, .bool pk.down, .string pk.word] _ (fun _ h => h.1) Tryz.underlying30 rfl (size_ply pk)) (by assumption) ?_
          simp only [Act.put]
          refine wpAnyH_take (i := 2) (oi := _) (v := _) rfl (by kernel_rfl) (by kernel_rfl) (by kernel_rfl) (fun _ _ _ h => h) (yieldsIf_load_mid (by rfl) 44 _ rfl w.heap.size 0 rfl (tcells x q) _ (fun _ h => h.2.1) Tryz.underlying44 rfl (by kernel_rfl)) (by assumption) ?_
          simp only [Act.put]
          refine wpAnyH_take (i := 3) (oi := _) (v := _) rfl (by kernel_rfl) (by kernel_rfl) (by kernel_rfl) (fun _ _ _ h => h) (yieldsIf_load_mid (by rfl) 25 _ rfl (w.heap.size + 1) 0 rfl (bcells b) _ (fun _ h => h.2.2) Tryz.underlying25 rfl (by kernel_rfl)) (by assumption) ?_
          simp only [Act.put]
          refine wpAnyH_take (i := 4) (oi := _) (v := _) rfl (by kernel_rfl) (by kernel_rfl) (by kernel_rfl) (fun _ _ _ h => h) (yieldsIf_load_mid (by rfl) 30 _ rfl wr.heap.size 0 rfl [.int .i64 pk.row, .int .i64 pk.col, .bool pk.down, .string pk.word] _ (fun _ h => h.1) Tryz.underlying30 rfl (size_ply pk)) (by assumption) ?_
          simp only [Act.put]
          refine wpAnyH_ready (rs := [5]) (by kernel_rfl) (by simp) ?_
          refine AllReadyH.cons (o := _) rfl (fun K hK => ?_) AllReadyH.nil
          go_simp
          refine (HC.out _ (HXA.out.kept hb)).mono ?_
          rintro e w7 ⟨rfl, hd⟩
          have hz8 := Nat.le_trans hz7 hd.size
          have hHeld3 : w7.rangeAt wr.heap.size 0 (Ply.enc pk) ∧ w7.rangeAt w.heap.size 0 (tcells x q) ∧ w7.rangeAt (w.heap.size + 1) 0 (bcells b) := ⟨fun j v hv => cell_kept (hHeld.1 j v hv) hd, fun j v hv => cell_kept (hHeld.2.1 j v hv) hd, fun j v hv => cell_kept (hHeld.2.2 j v hv) hd⟩
          replace hb := hb.trans (hd.mono hb.size)
          replace HO := Lib.hid (own_below HO.out hd)
          replace VT := Lib.hid (VT.out.kept hd)
          replace VB := Lib.hid (VB.out.kept hd)
          replace VP := Lib.hid (VP.out.kept hd)
          clear hd
          clear hz7 HC
          go_wp2_with fail
          refine hK.out _ _ hHeld3 (fun _ => ?_)
          clear hK K hHeld
          refine wpAnyH_ready (rs := [6]) (by kernel_rfl) (by simp) ?_
          refine AllReadyH.cons (o := _) rfl (fun K hK => ?_) AllReadyH.nil
          go_simp
          refine hK.out _ _ hHeld3 (fun _ => ?_)
          clear hK K
          refine wpAnyH_ready (rs := [7]) (by kernel_rfl) (by simp) ?_
          refine AllReadyH.cons (o := _) rfl (fun K hK => ?_) AllReadyH.nil
          go_simp
          have KN := Lib.hid (new_move w7 sk pk 125)
          have hd : Below w7.heap.size w7 (w7.alloc (.cells #[.int .i64 pk.row, .int .i64 pk.col, .bool pk.down, .string pk.word, .int .i64 sk] 125)) := (Below.refl _ _).alloc (Nat.le_refl _) _
          have hHeld4 : (w7.alloc (.cells #[.int .i64 pk.row, .int .i64 pk.col, .bool pk.down, .string pk.word, .int .i64 sk] 125)).rangeAt wr.heap.size 0 (Ply.enc pk) ∧ (w7.alloc (.cells #[.int .i64 pk.row, .int .i64 pk.col, .bool pk.down, .string pk.word, .int .i64 sk] 125)).rangeAt w.heap.size 0 (tcells x q) ∧ (w7.alloc (.cells #[.int .i64 pk.row, .int .i64 pk.col, .bool pk.down, .string pk.word, .int .i64 sk] 125)).rangeAt (w.heap.size + 1) 0 (bcells b) := ⟨fun j v hv => cell_kept (hHeld3.1 j v hv) hd, fun j v hv => cell_kept (hHeld3.2.1 j v hv) hd, fun j v hv => cell_kept (hHeld3.2.2 j v hv) hd⟩
          replace hb := hb.trans (hd.mono hb.size)
          replace HO := Lib.hid (own_below HO.out hd)
          replace VT := Lib.hid (VT.out.kept hd)
          replace VB := Lib.hid (VB.out.kept hd)
          replace VP := Lib.hid (VP.out.kept hd)
          clear hd
          go_wp2_with fail
          refine hK.out _ _ hHeld4 (fun _ => ?_)
          clear hK K
          refine wpAnyH_ready (rs := [8]) (by kernel_rfl) (by simp) ?_
          refine AllReadyH.cons (o := _) rfl (fun K hK => ?_) AllReadyH.nil
          rw [if_pos (by rfl)]
          refine wp_append_lies _ (.tmp 28) (.tmp 35) 123 rfl (w.heap.size + 2) 125 i0 _ 5 48 Tryz.underlying123 hi0 hi1 hi2 hi3 rfl (by decide) _ k ((ms.take k).flatMap mvEnc) (by rfl) HO.out ⟨w7.heap.size, 0, none⟩ 1 1 (mcells sk pk) (by rfl) rfl KN.out (mcells_one sk pk) (by decide) ?c1 ?c2 ?c3 _ rfl ?_
          case c1 => unfold maxLen; omega
          case c2 => omega
          case c3 => (first | omega | (simp only [World.size_alloc]; omega))
          intro g7 cap7 w8 hown hgr hwh hlt7
          obtain ⟨hgge, hglt⟩ := HGL.out
          have hz9 : w.heap.size + 2 ≤ w8.heap.size := by have := hown.lt g7 rfl; omega
          have oP := VP.out.grown hgr (by intro e; cases e; exact absurd hglt (Nat.lt_irrefl _))
          have oT := VT.out.grown hgr (by intro e; have e2 : w.heap.size = g := Option.some.inj e; omega)
          have oB := VB.out.grown hgr (by intro e; have e2 : w.heap.size + 1 = g := Option.some.inj e; omega)
          have hb8 := hb.grown hgr hb.size (fun q h => by have e2 : g = q := Option.some.inj h; omega)
          have VT8 := Lib.hid oT
          have VB8 := Lib.hid oB
          have hHeld5 : w8.rangeAt wr.heap.size 0 (Ply.enc pk) ∧ w8.rangeAt w.heap.size 0 (tcells x q) ∧ w8.rangeAt (w.heap.size + 1) 0 (bcells b) := ⟨oP.range, oT.range, oB.range⟩
          clear HO VP VT VB hb oP oT oB hgr KN hHeld4 hHeld3 hz8
          refine hK.out _ _ hHeld5 (fun _ => ?_)
          clear hK K
          refine wpAnyH_ready (rs := [9]) (by kernel_rfl) (by simp) ?_
          refine AllReadyH.cons (o := _) rfl (fun K hK => ?_) AllReadyH.nil
          go_simp
          refine hK.out _ _ hHeld5 (fun _ => ?_)
          clear hK K
          refine wpAnyH_done (by kernel_rfl) ?_ _
          clear hHeld5
          go_wp2
          go_roundw
          case rel => exact ⟨k + 1, g7, cap7, hk2, by go_num, by go_num, by rw [HTk.out]; exact Lib.hid hown, hz9, VT8, VB8, hb8⟩
          case measure => simp [intOf]; omega
        · obtain rfl : k = ps.length := by omega
          have hms : SliceAt wr 5 mvEnc (some ⟨g, 0, none⟩) ms := own_slice mvEnc_len (own_as HO.out (by rw [List.take_of_length_le (by rw [HLN.out]; exact Nat.le_refl _)])) HLN.out.symm
          have HMS := Lib.hid hms
          have HMF : Hid (∀ W, SliceAt W 5 mvEnc (some ⟨g, 0, none⟩) ms → Calls Tryz.prog 110 #[.slice (some ⟨g, 0, none⟩) ps.length cp, .func (.func 111) #[] #[]] W fun e w' => e = .returned (.agg (mcells (mvS ms (mvB ms (ps.length - 1))) (mvP ms (mvB ms (ps.length - 1)))).toArray) ∧ Below W.heap.size W w') := Lib.hid (fun W h => by
            have h2 := maxFunc_any ms (some ⟨g, 0, none⟩) cp W h (by rw [HLN.out]; omega) (by rw [HLN.out]; omega)
            rw [HLN.out] at h2
            exact h2)
          have HIX : Hid (∀ W, SliceAt W 5 mvEnc (some ⟨g, 0, none⟩) ms → Calls Tryz.prog 113 #[.slice (some ⟨g, 0, none⟩) ps.length cp, .agg #[.int .i64 (mvP ms (mvB ms (ps.length - 1))).row, .int .i64 (mvP ms (mvB ms (ps.length - 1))).col, .bool (mvP ms (mvB ms (ps.length - 1))).down, .string (mvP ms (mvB ms (ps.length - 1))).word, .int .i64 (mvS ms (mvB ms (ps.length - 1)))]] W fun e w' => e = .returned (.int .i64 (mvB ms (ps.length - 1) : Nat)) ∧ Below W.heap.size W w') := Lib.hid (fun W h => by
            have hle := mvB_le ms (ps.length - 1)
            have h2 := indexMove_any ms (some ⟨g, 0, none⟩) cp (mvS ms (mvB ms (ps.length - 1))) (mvP ms (mvB ms (ps.length - 1))) (mvB ms (ps.length - 1)) W h (by rw [HLN.out]; omega) (by rw [HLN.out]; omega) rfl rfl (fun j hj => bestK_new (mvS ms) (mvP ms) hj)
            rw [HLN.out] at h2
            exact h2)
          clear HSC HTK HLN HO hms hk hk2 VT VB hz
          generalize hB : mvB ms (ps.length - 1) = B at *
          generalize hS : mvS ms B = sb at *
          generalize mvP ms B = pb at *
          have HBQ := Lib.hid hB
          have HSQ := Lib.hid hS
          clear hB hS
          go_upto_region 11 with fail
          go_wp2_with fail
          refine (HMF.out _ HMS.out).mono ?_
          rintro e w9 ⟨rfl, hd⟩
          replace hb := hb.trans (hd.mono hb.size)
          replace HMS := Lib.hid (HMS.out.kept hd)
          clear hd
          clear HMF
          have V6 := VarAt.new w9 125 mzero
          obtain ⟨o6, k6⟩ := V6.put (mcells sb pb) rfl
          have tR := V6.there (n := (mcells sb pb).length) rfl
          have hd : Below w9.heap.size w9 ((w9.alloc (.cells mzero.toArray 125)).setCells w9.heap.size 0 (mcells sb pb)) := ((Below.refl _ _).alloc (Nat.le_refl _) _).grown k6 (by simp) (fun q h => by cases h; exact Nat.le_refl _)
          clear V6 k6
          go_upto_region 12 with (refine wpList_store_mid rfl 125 _ _ rfl w9.heap.size 0 (mcells sb pb).toArray rfl rfl tR (size_move sb pb) (all_oneCell_toArray (mcells_one sb pb)) ?_)
          clear tR
          change Code.wp _ _ _ _ ((w9.alloc (.cells mzero.toArray 125)).setCells w9.heap.size 0 (mcells sb pb))
          replace hb := hb.trans (hd.mono hb.size)
          replace HMS := Lib.hid (HMS.out.kept hd)
          clear hd
          generalize (w9.alloc (.cells mzero.toArray 125)).setCells w9.heap.size 0 (mcells sb pb) = w10 at *
          generalize w9.heap.size = x2 at *
          have a0 := cell_regrown (o6.cell (i := 0) (v := .int .i64 pb.row) rfl)
          have a1 := cell_regrown (o6.cell (i := 1) (v := .int .i64 pb.col) rfl)
          have a2 := cell_regrown (o6.cell (i := 2) (v := .bool pb.down) rfl)
          have a3 := cell_regrown (o6.cell (i := 3) (v := .string pb.word) rfl)
          have a4 := cell_regrown (o6.cell (i := 4) (v := .int .i64 sb) rfl)
          clear o6
          simp only [Act.put]
          refine wp_region_quiet_below (by kernel_rfl) (by kernel_rfl) ?_
          repeat (go_big_quiet_step ((first | (go_at_call 113; exact Calls.regrown_of (HIX.out _ (HMS.out.kept (below_regrown _ _ _)))))))
          refine wpQuiet_nil ?_
          intro wx hw'
          obtain ⟨⟨dq, oq⟩, hw''⟩ := hw'
          have hd := below_regrown w10 dq oq
          rw [← hw''] at hd
          clear hw''
          replace hb := hb.trans (hd.mono hb.size)
          clear hd a0 a1 a2 a3 a4 HIX HMS
          go_wp2
          try simp only [Exit.inBlock, Exit.then]
          refine bodyPost_ret (results_tmp3 rfl _ _ _) rfl ?_
          exact ⟨by rw [HBQ.out, HSQ.out]; rfl, hb⟩
end Go.Proofs.YtjdcdhhbgijaoaaGreatDoor
namespace Go.Proofs.YtjdcdhhbgijaoaaGreatDoor
open Go.ChangeShapes Go.WideShapes Go.ChangeAt Go.RowKit Go.Sort

theorem fit_good {b : Brd} {n : Nat} (h : b.Good n) : b.fit := by
  have h1 := sq_mono h.hi
  have h2 := h.prem
  have h3 := h.cells
  exact ⟨by omega, by omega⟩
/-- what the law asks of one play -/
structure OneK (x : Tls) (q : TlA) (b : Brd) (p : Ply) (X : Brd) (T : ByteArray) (v rs n y s : Int) : Prop where
  sc : ∀ W, x.At q W → CEnv W → Calls Tryz.prog 22 #[.agg #[.string x.letters, .slice q.values.a x.values.length q.values.c, .slice q.counts.a x.counts.length q.counts.c, .int .i64 x.blanks], .agg #[.int .i64 b.size, .string b.premium, .string b.cells], .agg #[.int .i64 p.row, .int .i64 p.col, .bool p.down, .string p.word]] W fun e w' => e = .returned (.tuple #[.int .i64 n, .int .i64 0]) ∧ Below W.heap.size W w'
  mp : ∀ W, CEnv W → Calls Tryz.prog 19 #[.agg #[.int .i64 b.size, .string b.premium, .string b.cells], .agg #[.int .i64 p.row, .int .i64 p.col, .bool p.down, .string p.word]] W fun e w' => e = .returned (.tuple #[.agg #[.int .i64 X.size, .string X.premium, .string X.cells], .int .i64 0]) ∧ Below W.heap.size W w'
  pl : ∀ W, CEnv W → Calls Tryz.prog 40 #[.agg #[.int .i64 b.size, .string b.premium, .string b.cells], .agg #[.int .i64 p.row, .int .i64 p.col, .bool p.down, .string p.word]] W fun e w' => e = .returned (.tuple #[.string T, .int .i64 0]) ∧ Below W.heap.size W w'
  fv : ∀ W, x.At q W → CEnv W → EnvL W → Calls Tryz.prog 38 #[.agg #[.string x.letters, .slice q.values.a x.values.length q.values.c, .slice q.counts.a x.counts.length q.counts.c, .int .i64 x.blanks], .agg #[.int .i64 X.size, .string X.premium, .string X.cells]] W fun e w' => e = .returned (.tuple #[.int .i64 y, .int .i64 0]) ∧ Below W.heap.size W w'
  lv : ∀ W, x.At q W → Calls Tryz.prog 34 #[.agg #[.string x.letters, .slice q.values.a x.values.length q.values.c, .slice q.counts.a x.counts.length q.counts.c, .int .i64 x.blanks], .string T] W fun e w' => e = .returned (.int .i64 s) ∧ Below W.heap.size W w'
  le : n ≤ rs
  eq : y = v + s
  lo : 0 ≤ v + s
  hi : v + s ≤ 1073741824
/-- what the law asks -/
structure FaceK (x : Tls) (q : TlA) (b : Brd) (ps : List Ply) (g cap : Nat) (r rs cd v cv : Int) : Prop where
  bp1 : ∀ W, x.At q W → CEnv W → SliceAt W 4 Ply.enc (some ⟨g, 0, none⟩) ps → Calls Tryz.prog 36 #[.agg #[.string x.letters, .slice q.values.a x.values.length q.values.c, .slice q.counts.a x.counts.length q.counts.c, .int .i64 x.blanks], .agg #[.int .i64 b.size, .string b.premium, .string b.cells], .slice (some ⟨g, 0, none⟩) ps.length cap] W fun e w' => e = .returned (.tuple #[.int .i64 r, .int .i64 rs, .int .i64 cd]) ∧ Below W.heap.size W w'
  bp2 : ∀ W, x.At q W → SliceAt W 4 Ply.enc (some ⟨g, 0, none⟩) ps → Calls Tryz.prog 37 #[.agg #[.string x.letters, .slice q.values.a x.values.length q.values.c, .slice q.counts.a x.counts.length q.counts.c, .int .i64 x.blanks], .agg #[.int .i64 b.size, .string b.premium, .string b.cells], .slice (some ⟨g, 0, none⟩) ps.length cap] W fun e w' => e = .returned (.tuple #[.int .i64 r, .int .i64 rs, .int .i64 cd]) ∧ Below W.heap.size W w'
  fv1 : ∀ W, x.At q W → CEnv W → EnvL W → Calls Tryz.prog 38 #[.agg #[.string x.letters, .slice q.values.a x.values.length q.values.c, .slice q.counts.a x.counts.length q.counts.c, .int .i64 x.blanks], .agg #[.int .i64 b.size, .string b.premium, .string b.cells]] W fun e w' => e = .returned (.tuple #[.int .i64 v, .int .i64 cv]) ∧ Below W.heap.size W w'
  fv2 : ∀ W, x.At q W → Calls Tryz.prog 39 #[.agg #[.string x.letters, .slice q.values.a x.values.length q.values.c, .slice q.counts.a x.counts.length q.counts.c, .int .i64 x.blanks], .agg #[.int .i64 b.size, .string b.premium, .string b.cells]] W fun e w' => e = .returned (.tuple #[.int .i64 v, .int .i64 cv]) ∧ Below W.heap.size W w'
  one : cd = 0 → ∀ k (h : k < ps.length), ∃ X T n y s, OneK x q b ps[k] X T v rs n y s
theorem faceK (x : Tls) (q : TlA) (b : Brd) (ps : List Ply) (g cap : Nat) (hft : x.fit) (hxs : x.letters.size ≤ 1048576) (hf : b.fit) (hl : ps.length ≤ 1048576) (hs : ∀ p ∈ ps, p.word.size ≤ 1048576) : ∃ r rs cd v cv, FaceK x q b ps g cap r rs cd v cv := by
  refine ⟨(bestR x b ps).1, (bestR x b ps).2.1, (bestR x b ps).2.2, (faceOut x b).1, (faceOut x b).2, ⟨fun W h1 h2 h3 => implBestPlay_any x q b ps _ cap W h1 hft hxs hf hs hl h2 h3, fun W h1 h3 => specBestPlay_any x q b ps _ cap W h1 hft hf (fun p hp => Nat.le_trans (hs p hp) (by decide)) (Nat.le_trans hl (by decide)) h3, fun W h1 h2 h3 => FaceValue_any x q b W h1 hft hxs hf h2 h3, fun W h1 => specFaceValue_any x q b W h1 hft hf, fun h0 k hk => ?_⟩⟩
  have hall : (x.ok && (b.ok && allPlays b ps)) = true := by
    cases e : (x.ok && (b.ok && allPlays b ps)) with
    | true => rfl
    | false => unfold bestR at h0; rw [if_pos e] at h0; exact absurd h0 (by decide)
  have hne : ¬ ps.length = 0 := by omega
  have hrs : (bestR x b ps).2.1 = mvS (scored x b ps) (mvB (scored x b ps) (ps.length - 1)) := by
    unfold bestR
    rw [if_neg (by rw [hall]; decide), if_neg hne]
  rw [hrs]
  simp only [Bool.and_eq_true] at hall
  obtain ⟨hx, hb, ha⟩ := hall
  have hpk : b.okPlay ps[k] = true := by
    unfold allPlays at ha
    exact List.all_eq_true.1 ha _ (List.getElem_mem hk)
  obtain ⟨n, hp⟩ := okPlay_good hpk
  have hXok := hp.made_good.ok
  have hfX := fit_good hp.made_good
  have hpw := hs _ (List.getElem_mem hk)
  have hxg := Tls.good hx
  have hall := scTiles_all hp
  have hTz : (mkB (srtL (b.tiles ps[k]))).size ≤ 12 := by
    rw [mkB_size, srt_len hall]
    have h3 := hp.twelve
    have h4 : (b.fresh ps[k]).length ≤ ps[k].word.size := freshL_len _ _ _ _
    unfold Brd.tiles placedB
    rw [List.length_map, List.length_map]
    omega
  have hfv : faceOut x b = (b.face x, 0) := face_yes (by rw [hx, hb]; rfl)
  have hfX2 : faceOut x (b.made ps[k]) = ((b.made ps[k]).face x, 0) := face_yes (by rw [hx, hXok]; rfl)
  have hmk := make_yes hpk
  have htl := tilesOut_yes hpk
  have hsm : sumOut x (mkB (srtL (b.tiles ps[k]))) = x.sum (mkB (srtL (b.tiles ps[k]))) := by unfold sumOut; rw [hx]; rfl
  rw [hfv]
  refine ⟨b.made ps[k], mkB (srtL (b.tiles ps[k])), b.score ps[k] x, (b.made ps[k]).face x, x.sum (mkB (srtL (b.tiles ps[k]))), ⟨fun W h1 h2 => ?_, fun W h2 => ?_, fun W h2 => ?_, fun W h1 h2 h3 => ?_, fun W h1 => ?_, ?_, hp.face_made hx, ?_, ?_⟩⟩
  · refine (ScorePlay_any x q b ps[k] W h1 hft hxs hf hpw h2).mono ?_
    intro e w' h
    unfold ScorePost at h
    rw [hx, hpk] at h
    exact h
  · have := MakePlay_any b ps[k] W hf hpw h2
    rwa [hmk] at this
  · have := PlacedTiles_any b ps[k] W hf hpw h2
    rwa [htl] at this
  · have := FaceValue_any x q (b.made ps[k]) W h1 hft hxs hfX h2 h3
    rwa [hfX2] at this
  · have := LettersValue_any x q (mkB (srtL (b.tiles ps[k]))) W h1 hft hxs (Nat.le_trans hTz (by decide))
    rwa [hsm] at this
  · have h1 := bestK_top (mvS (scored x b ps)) (mvP (scored x b ps)) (ps.length - 1) k (by omega)
    rw [scored_S hk] at h1
    have h2 : ¬ mvS (scored x b ps) (mvB (scored x b ps) (ps.length - 1)) < b.score ps[k] x := fun e => h1 (.inl e)
    omega
  · have h1 := (hxg.sum_range (mkB (lettersL b.cells.data.toList)) (mkB (lettersL b.cells.data.toList)).size).1
    have h2 := (hxg.sum_range (mkB (srtL (b.tiles ps[k]))) (mkB (srtL (b.tiles ps[k]))).size).1
    show 0 ≤ b.face x + x.sum _
    unfold Brd.face Tls.sum
    omega
  · have h1 := (hxg.sum_range (mkB (lettersL b.cells.data.toList)) (mkB (lettersL b.cells.data.toList)).size).2
    have h2 := (hxg.sum_range (mkB (srtL (b.tiles ps[k]))) (mkB (srtL (b.tiles ps[k]))).size).2
    have h3 := letters_few hb
    show b.face x + x.sum _ ≤ _
    unfold Brd.face Tls.sum
    omega
end Go.Proofs.YtjdcdhhbgijaoaaGreatDoor
