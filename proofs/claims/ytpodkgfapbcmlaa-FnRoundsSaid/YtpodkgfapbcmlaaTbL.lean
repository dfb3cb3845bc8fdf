/- The law of FnTables: for every code the statement's own function answers true. No condition on the code. -/
import Derived.Test.YtpodkgfapbcmlaaDrE
import Derived.Test.YtpodkgfapbcmlaaTbP
import Derived.Test.YtpodkgfapbcmlaaAllS
import Derived.Test.YtpodkgfapbcmlaaStO
namespace Go.Proofs.Ytpodkgfapbcmlaa
open Go.ChangeShapes Go.WideShapes Go.ChangeAt Go.RowKit Go.Sort

theorem f6big_any (ca : Option Addr) (n cap : Nat) (w : World) : Calls Try.prog 33 #[.slice ca n cap] w fun e w' => e = .returned (.bool (decide ((4096 : Int) < n))) ∧ w = w' := by
  go_enter Try.func33, Try.ntmps33
  go_wp2
  go_ret
  exact ⟨rfl, rfl⟩
set_option maxHeartbeats 1000000 in
theorem sameClub_any (ms : List Mem) (a b : Option Addr) (capa capb : Nat) (w : World) (ha : SliceAt w 2 Mem.enc a ms) (hb : SliceAt w 2 Mem.enc b ms) (hl : ms.length ≤ 1048576) :
    Calls Try.prog 39 #[.agg #[.slice a ms.length capa], .agg #[.slice b ms.length capb]] w fun e w' => e = .returned (.bool true) ∧ Below w.heap.size w w' := by
  obtain ⟨w2, hw2⟩ : ∃ w2, w2 = (w.alloc (.cells #[.slice a ms.length capa] 30)).alloc (.cells #[.slice b ms.length capb] 30) := ⟨_, rfl⟩
  have hx : Below w.heap.size w w2 := by rw [hw2]; exact ((Below.refl _ _).alloc (Nat.le_refl _) _).alloc (by simp) _
  have V0 : Hid (VarAt w2 w.heap.size 30 [.slice a ms.length capa]) := by
    rw [hw2]
    exact Lib.hid ((VarAt.new w 30 [.slice a ms.length capa]).kept ((Below.refl _ _).alloc (Nat.le_refl _) _))
  have V1 : Hid (VarAt w2 (w.heap.size + 1) 30 [.slice b ms.length capb]) := by
    rw [hw2]
    have := VarAt.new (w.alloc (.cells #[.slice a ms.length capa] 30)) 30 [.slice b ms.length capb]
    simp only [World.size_alloc] at this
    exact Lib.hid this
  have HA := Lib.hid (ha.kept hx)
  have HB := Lib.hid (hb.kept hx)
  clear ha hb
  have c0 := V0.out.cell (i := 0) rfl
  have c1 := V1.out.cell (i := 0) rfl
  go_enter Try.func39, Try.ntmps39
  go_upto_region 3 with fail
  rw [← hw2]
  clear hw2 c0 c1
  go_wp2_with fail
  go_loopw [5] (fun i wr => ∃ k : Nat, k ≤ ms.length ∧ i = .int .i64 k ∧ Below w2.heap.size w2 wr) (fun i _ => ms.length - (intOf i).toNat)
  case atStart => exact ⟨0, Nat.zero_le _, rfl, Below.refl _ _⟩
  case round =>
    obtain ⟨k, hk, rfl, hb⟩ := hrel
    have c0 := (V0.out.kept hb).cell (i := 0) rfl
    have c1 := (V1.out.kept hb).cell (i := 0) rfl
    by_cases hlt : k < ms.length
    · obtain ⟨xb, xo, rfl, hc⟩ := (HA.out.kept hb).open hlt
      obtain ⟨yb, yo, rfl, hd⟩ := (HB.out.kept hb).open hlt
      have p0 := hc.at0 hlt (v := .string ms[k].name) rfl
      have q0 := hd.at0 hlt (v := .string ms[k].name) rfl
      have p1 := hc k hlt 1 (.int .i64 ms[k].rating) rfl
      have q1 := hd k hlt 1 (.int .i64 ms[k].rating) rfl
      clear hc hd
      go_wp2
      go_quiet (fail)
      have hd : Below wr.heap.size wr (wr.drewN nq) := (Drew.drewN (Drew.refl _) nq).below _
      go_wp2
      go_roundw
      case rel => exact ⟨k + 1, by omega, by go_num, hb.trans (hd.mono hb.size)⟩
      case measure => simp [intOf]; omega
    · go_wp2
      go_ret
      exact ⟨rfl, hx.trans (hb.mono hx.size)⟩
theorem DrawStandingsOf_any (ca : Option Addr) (ccap : Nat) (bs : List Int) (w : World) (hc : CodeAt w w.heap.size ca bs) : Calls Try.prog 42 #[.slice ca bs.length ccap] w (AllDrawn w) := by
  have hb : Below w.heap.size w (w.alloc (.cells #[.slice none 0 0] 30)) := (Below.refl _ _).alloc (Nat.le_refl _) _
  have V0 := Lib.hid (VarAt.new w 30 [.slice none 0 0])
  have HC : Hid (CodeAt (w.alloc (.cells #[.slice none 0 0] 30)) (w.alloc (.cells #[.slice none 0 0] 30)).heap.size ca bs) := by
    obtain ⟨c1, c2, c3, c4⟩ := hc
    exact Lib.hid ⟨c1.kept hb, c2, c3, fun h0 cb co e => by have := c4 h0 cb co e; simp; omega⟩
  clear hc
  go_enter Try.func42, Try.ntmps42
  go_wp2_with fail
  refine (l26All_any ca ccap bs _ HC.out).mono ?_
  rintro e w2 ⟨a, cap, ms, ra, rcap, rs, rfl, h1, h2, h3, h4, h5, h6, h7, hA, hR, h8⟩
  replace V0 := Lib.hid (V0.out.kept h8)
  replace hb := hb.trans (h8.mono hb.size)
  obtain ⟨o7, g7⟩ := V0.out.set 0 (.slice a ms.length cap)
  have d0 := V0.out.cell (i := 0) rfl
  have f0 := V0.out.free 0
  have e0 := o7.cell (i := 0) (v := .slice a ms.length cap) rfl
  clear h8
  have S1 := Lib.hid (h1.grown g7 (fun x hx => by have := hA x hx; simp at this ⊢; omega))
  have S2 := Lib.hid (h2.grown g7 (fun x hx => by have := hR x hx; simp at this ⊢; omega))
  replace hb := hb.trans (below_row g7 (Nat.le_refl _) hb.size)
  have HN := Lib.hid h3
  have HA := Lib.hid (And.intro hA hR)
  clear h1 h2 h3 hA hR o7 g7
  go_wp2
  refine bodyPost_ret (v := .tuple #[.agg #[.slice a ms.length cap], .slice ra rs.length rcap]) (by simp [results, Try.results42, go_sem, e0]) rfl ?_
  exact ⟨a, cap, ms, ra, rcap, rs, rfl, S1.out, S2.out, HN.out, h4, h5, h6, h7, (fun x hx => by have := HA.out.1 x hx; simp at this; omega), (fun x hx => by have := HA.out.2 x hx; simp at this; omega), hb⟩
theorem fit_names {ms ns : List Mem} (h : MemsFit ms) (e : ns.map (·.name) = ms.map (·.name)) : MemsFit ns := by
  intro x hx
  have h5 : x.name ∈ ms.map (·.name) := by rw [← e]; exact List.mem_map_of_mem hx
  obtain ⟨y, hy, he⟩ := List.mem_map.1 h5
  have := h y hy
  unfold Mem.fit at this ⊢
  rwa [he] at this
theorem rates_names (ms : List Mem) : ∀ rs : List Res, (ratesAll ms rs).map (·.name) = ms.map (·.name) := by
  intro rs
  induction rs generalizing ms with
  | nil => rfl
  | cons r rs ih => exact (ih (rateOf ms r).1).trans (rateOf_names ms r)

set_option maxRecDepth 100000 in
set_option maxHeartbeats 8000000 in
theorem lawTables_any (ca : Option Addr) (ccap : Nat) (bs : List Int) (w : World) (hs : SliceAt w 1 Byt.enc ca bs) (hbd : ∀ x ∈ bs, 0 ≤ x ∧ x ≤ 255) :
    Calls Try.prog 8 #[.slice ca bs.length ccap] w fun e w' => e = .returned (.bool true) ∧ Below w.heap.size w w' := by
  by_cases hbig : 4096 < bs.length
  · have hd : decide ((4096 : Int) < bs.length) = true := by rw [decide_eq_true_eq]; omega
    clear hs hbd
    go_enter Try.func8, Try.ntmps8
    go_wp2_with fail
    refine (f6big_any ca bs.length ccap w).mono ?_
    rintro e w1 ⟨rfl, rfl⟩
    rw [hd]
    go_wp2
    go_ret
    exact ⟨rfl, Below.refl _ _⟩
  · have hd : decide ((4096 : Int) < bs.length) = false := by rw [decide_eq_false_iff_not]; omega
    have HC : Hid (CodeAt w w.heap.size ca bs) := Lib.hid ⟨hs, hbd, by omega, fun h0 cb co e => by
      obtain ⟨b', o', e', hc⟩ := hs.open h0
      rw [e] at e'
      simp only [Option.some.injEq, Addr.mk.injEq, and_true] at e'
      rw [e'.1]
      exact block_lt (hc.at0 h0 rfl)⟩
    clear hs hbd
    go_enter Try.func8, Try.ntmps8
    go_wp2_with fail
    refine (f6big_any ca bs.length ccap w).mono ?_
    rintro e w1 ⟨rfl, rfl⟩
    rw [hd]
    clear hd hbig
    go_wp2_with fail
    refine (DrawStandingsOf_any ca ccap bs w HC.out).mono ?_
    rintro e w2 ⟨a, cap, ms, ra, rcap, rs, rfl, h1, h2, h3, h4, h5, h6, h7, _, _, hb⟩
    have SM := Lib.hid h1
    have SR := Lib.hid h2
    have HN := Lib.hid h3
    have HF := Lib.hid h6
    have HRF := Lib.hid h7
    clear h1 h2 h3 h6 h7 HC
    have hd : Below w2.heap.size w2 (w2.alloc (.cells #[.slice a ms.length cap] 30)) := (Below.refl _ _).alloc (Nat.le_refl _) _
    have V3 := Lib.hid (VarAt.new w2 30 [.slice a ms.length cap])
    replace hb := hb.trans (hd.mono hb.size)
    replace SM := Lib.hid (SM.out.kept hd)
    replace SR := Lib.hid (SR.out.kept hd)
    clear hd
    generalize hB : w2.heap.size = B3 at *
    obtain ⟨w3, hw3⟩ : ∃ w3, w2.alloc (.cells #[.slice a ms.length cap] 30) = w3 := ⟨_, rfl⟩
    rw [hw3] at V3 SM SR hb
    have c3 := V3.out.cell (i := 0) rfl
    go_wp2_with fail
    clear hw3 hB
    refine (StandingsOf_any ms rs a ra cap rcap w3 SM.out SR.out (by omega) (by omega) HF.out HRF.out).mono ?_
    rintro e w4 ⟨a4, cap4, rfl, ho, hd⟩
    have T1 := Lib.hid (own_slice Std.enc_len ho rfl)
    replace V3 := Lib.hid (V3.out.kept hd)
    replace hb := hb.trans (hd.mono hb.size)
    replace c3 := cell_kept c3 hd
    replace SM := Lib.hid (SM.out.kept hd)
    replace SR := Lib.hid (SR.out.kept hd)
    clear hd
    clear ho
    go_wp2_with fail
    refine (specStandingsOf_anyN ms rs a ra cap rcap w4 SM.out HN.out SR.out (by omega) (by omega) HF.out HRF.out).mono ?_
    rintro e w5 ⟨a5, cap5, rfl, ho, hd⟩
    have T2 := Lib.hid (own_slice Std.enc_len ho rfl)
    replace V3 := Lib.hid (V3.out.kept hd)
    replace hb := hb.trans (hd.mono hb.size)
    replace c3 := cell_kept c3 hd
    replace SM := Lib.hid (SM.out.kept hd)
    replace SR := Lib.hid (SR.out.kept hd)
    replace T1 := Lib.hid (T1.out.kept hd)
    clear hd
    clear ho
    go_wp2_with fail
    refine (RateAll_anyN ms rs a ra cap rcap w5 SM.out HN.out SR.out (by omega) (by omega) HF.out HRF.out).mono ?_
    rintro e w6 ⟨a6, cap6, rfl, ho, hd⟩
    have X1 := Lib.hid (own_slice Mem.enc_len ho rfl)
    replace V3 := Lib.hid (V3.out.kept hd)
    replace hb := hb.trans (hd.mono hb.size)
    replace c3 := cell_kept c3 hd
    replace SM := Lib.hid (SM.out.kept hd)
    replace SR := Lib.hid (SR.out.kept hd)
    replace T1 := Lib.hid (T1.out.kept hd)
    replace T2 := Lib.hid (T2.out.kept hd)
    clear hd
    clear ho
    have hd : Below w6.heap.size w6 (w6.alloc (.cells #[.slice a6 (rateAll ms rs).1.length cap6] 30)) := (Below.refl _ _).alloc (Nat.le_refl _) _
    have V9 := Lib.hid (VarAt.new w6 30 [.slice a6 (rateAll ms rs).1.length cap6])
    replace V3 := Lib.hid (V3.out.kept hd)
    replace hb := hb.trans (hd.mono hb.size)
    replace c3 := cell_kept c3 hd
    replace SM := Lib.hid (SM.out.kept hd)
    replace SR := Lib.hid (SR.out.kept hd)
    replace T1 := Lib.hid (T1.out.kept hd)
    replace T2 := Lib.hid (T2.out.kept hd)
    replace X1 := Lib.hid (X1.out.kept hd)
    clear hd
    generalize hB : w6.heap.size = B9 at *
    obtain ⟨w7, hw7⟩ : ∃ w7, w6.alloc (.cells #[.slice a6 (rateAll ms rs).1.length cap6] 30) = w7 := ⟨_, rfl⟩
    rw [hw7] at V9 V3 SM SR hb T1 T2 X1 c3
    go_wp2_with fail
    clear hw7 hB
    refine (specRateAll_anyN ms rs a ra cap rcap w7 SM.out HN.out SR.out (by omega) (by omega) HF.out HRF.out).mono ?_
    rintro e w8 ⟨a8, cap8, rfl, ho, hd⟩
    have X2 := Lib.hid (own_slice Mem.enc_len ho rfl)
    replace V3 := Lib.hid (V3.out.kept hd)
    replace V9 := Lib.hid (V9.out.kept hd)
    replace hb := hb.trans (hd.mono hb.size)
    replace c3 := cell_kept c3 hd
    replace SM := Lib.hid (SM.out.kept hd)
    replace SR := Lib.hid (SR.out.kept hd)
    replace T1 := Lib.hid (T1.out.kept hd)
    replace T2 := Lib.hid (T2.out.kept hd)
    replace X1 := Lib.hid (X1.out.kept hd)
    clear hd
    clear ho
    have hd : Below w8.heap.size w8 (w8.alloc (.cells #[.slice a8 (rateAll ms rs).1.length cap8] 30)) := (Below.refl _ _).alloc (Nat.le_refl _) _
    have V11 := Lib.hid (VarAt.new w8 30 [.slice a8 (rateAll ms rs).1.length cap8])
    replace V3 := Lib.hid (V3.out.kept hd)
    replace V9 := Lib.hid (V9.out.kept hd)
    replace hb := hb.trans (hd.mono hb.size)
    replace c3 := cell_kept c3 hd
    replace SM := Lib.hid (SM.out.kept hd)
    replace SR := Lib.hid (SR.out.kept hd)
    replace T1 := Lib.hid (T1.out.kept hd)
    replace T2 := Lib.hid (T2.out.kept hd)
    replace X1 := Lib.hid (X1.out.kept hd)
    replace X2 := Lib.hid (X2.out.kept hd)
    clear hd
    generalize hB : w8.heap.size = B11 at *
    obtain ⟨w9, hw9⟩ : ∃ w9, w8.alloc (.cells #[.slice a8 (rateAll ms rs).1.length cap8] 30) = w9 := ⟨_, rfl⟩
    rw [hw9] at V11 V9 V3 SM SR hb T1 T2 X1 X2 c3
    have c9 := V9.out.cell (i := 0) rfl
    have c11 := V11.out.cell (i := 0) rfl
    have hXl : (rateAll ms rs).1.length ≤ 1048576 := by
      by_cases h : codeOf ms rs = 0
      · rw [rateAll_ok h, ratesAll_len]; omega
      · rw [rateAll_bad h]; simp
    have HXL := Lib.hid hXl
    clear hXl
    cases hcode : (codeOf ms rs == 0) with
    | false =>
      have hcd : codeOf ms rs ≠ 0 := by simpa using hcode
      rw [standingsOf_bad hcd] at T1 T2 ⊢
      rw [rateAll_bad hcd] at X1 X2 V9 V11 c9 c11 HXL hw9 ⊢
      obtain ⟨code, hcg⟩ : ∃ code, codeOf ms rs = code := ⟨_, rfl⟩
      rw [hcg] at hcd
      simp only [hcg, List.length_nil] at T1 T2 X1 X2 V9 V11 c9 c11 HXL hw9 ⊢
      have hcn : (code != 0) = true := by simpa using hcd
      clear hcode hcg T1 T2
      go_wp2_with (go_at_call 39; refine (sameClub_any [] a6 a8 cap6 cap8 _ X1.out X2.out HXL.out).mono ?_; rintro e w10 ⟨rfl, hd⟩)
      refine wp_loop_rounds 1 ?_
      rw [rounds_succ]
      go_wp2
      go_ret
      exact ⟨rfl, hb.trans (hd.mono hb.size)⟩
    | true =>
      have hcd : codeOf ms rs = 0 := by simpa using hcode
      rw [standingsOf_ok hcd, rateAll_ok hcd] at *
      simp only at T1 T2 X1 X2 V9 V11 c9 c11 HXL
      have HSUM := Lib.hid (table_sum hcd)
      have HSTEP := Lib.hid (fun k hk => rates_next hcd (k := k) hk)
      obtain ⟨z1, z2, z3, z4⟩ := code_zero hcd
      have HTB := Lib.hid (table_bd (ms := ms) z2)
      have HTL := Lib.hid (tableOf_len ms rs)
      clear hcode hcd z1 z2 z3
      go_wp2_with (go_at_call 39; refine (sameClub_any (ratesAll ms rs) a6 a8 cap6 cap8 _ X1.out X2.out HXL.out).mono ?_; rintro e w10 ⟨rfl, hd⟩)
      replace V3 := Lib.hid (V3.out.kept hd)
      replace V9 := Lib.hid (V9.out.kept hd)
      replace hb := hb.trans (hd.mono hb.size)
      replace SM := Lib.hid (SM.out.kept hd)
      replace SR := Lib.hid (SR.out.kept hd)
      replace T1 := Lib.hid (T1.out.kept hd)
      replace T2 := Lib.hid (T2.out.kept hd)
      replace X1 := Lib.hid (X1.out.kept hd)
      clear hd
      clear c3 c9 c11 V11 X2
      have HT12 := Lib.hid ((show (tableOf ms rs).length ≤ 13 by rw [HTL.out]; exact h4))
      generalize tableOf ms rs = T at *
      go_loopw [13, 14, 15] (fun pv sv iv wr => ∃ (k : Nat) (P S : Int), k ≤ T.length ∧ iv = .int .i64 k ∧ pv = .int .i64 P ∧ sv = .int .i64 S ∧ Hid (P = sumI (·.points) (T.take k)) ∧ Hid (S = sumI (·.spread) (T.take k)) ∧ Below w10.heap.size w10 wr) (fun _ _ iv _ => T.length - (intOf iv).toNat)
      case atStart => exact ⟨0, 0, 0, Nat.zero_le _, rfl, rfl, rfl, Lib.hid rfl, Lib.hid rfl, Below.refl _ _⟩
      case round =>
        obtain ⟨k, P, S, hk, rfl, rfl, rfl, HP, HS, hbr⟩ := hrel
        have hT12 := HT12.out
        have bP : -10400 ≤ P ∧ P ≤ 10400 := by
          have := sumI_bd (fun s : Std => s.points) 800 (l := T.take k) (fun x hx => by have := HTB.out x (List.mem_of_mem_take hx); unfold StdBd at this; omega)
          rw [← HP.out, List.length_take] at this
          omega
        have bS : -20800000 ≤ S ∧ S ≤ 20800000 := by
          have := sumI_bd (fun s : Std => s.spread) 1600000 (l := T.take k) (fun x hx => by have := HTB.out x (List.mem_of_mem_take hx); unfold StdBd at this; omega)
          rw [← HS.out, List.length_take] at this
          omega
        by_cases hlt : k < T.length
        · obtain ⟨xb, xo, rfl, hc⟩ := (T1.out.kept hbr).open hlt
          obtain ⟨yb, yo, rfl, hd⟩ := (T2.out.kept hbr).open hlt
          obtain ⟨p0, p1, p2, p3⟩ := stdAt_of hc hlt
          obtain ⟨q0, q1, q2, q3⟩ := stdAt_of hd hlt
          have HP2 := Lib.hid (sumI_take (·.points) hlt)
          have HS2 := Lib.hid (sumI_take (·.spread) hlt)
          have bb : (-800 ≤ T[k].points ∧ T[k].points ≤ 800) ∧ (-1600000 ≤ T[k].spread ∧ T[k].spread ≤ 1600000) := by
            have := HTB.out _ (List.getElem_mem hlt)
            unfold StdBd at this
            omega
          obtain ⟨bb1, bb2⟩ := bb
          clear hc hd
          go_wp2
          go_quiet (fail)
          have hd : Below wr.heap.size wr (wr.drewN nq) := (Drew.drewN (Drew.refl _) nq).below _
          go_wp2
          go_roundw
          case rel => exact ⟨k + 1, _, _, by omega, by go_num, rfl, rfl, Lib.hid (by rw [HP2.out, HP.out]), Lib.hid (by rw [HS2.out, HS.out]), hbr.trans (hd.mono hbr.size)⟩
          case measure => simp [intOf]; omega
        · obtain rfl : k = T.length := by omega
          have hPe : P = 2 * rs.length := by rw [HP.out, List.take_length]; exact HSUM.out.1
          have hSe : S = 0 := by rw [HS.out, List.take_length]; exact HSUM.out.2
          subst hPe hSe
          have hb := hb.trans (hbr.mono hb.size)
          replace V3 := Lib.hid (V3.out.kept hbr)
          replace V9 := Lib.hid (V9.out.kept hbr)
          replace SM := Lib.hid (SM.out.kept hbr)
          replace SR := Lib.hid (SR.out.kept hbr)
          replace X1 := Lib.hid (X1.out.kept hbr)
          have c3 := V3.out.cell (i := 0) rfl
          clear hbr HP HS bP bS hT12 HSUM hlt hk T1 T2
          generalize wr = wl at *
          have V16 := Lib.hid (VarAt.new wl 30 [.slice a ms.length cap])
          have SM2 := Lib.hid (SM.out.kept ((Below.refl _ _).alloc (Nat.le_refl _) (.cells #[.slice a ms.length cap] 30)))
          have hbm : Below wl.heap.size wl (wl.alloc (.cells #[.slice a ms.length cap] 30)) := (Below.refl _ _).alloc (Nat.le_refl _) _
          go_wp2_with fail
          have HRL := Lib.hid (ratesAll_len rs ms)
          clear c3
          go_loopw [17] (fun iv wr => ∃ (k : Nat) (ay : Option Addr) (capy : Nat), k ≤ rs.length ∧ iv = .int .i64 k ∧ Hid (VarAt wr wl.heap.size 30 [.slice ay (ratesAll ms (rs.take k)).length capy]) ∧ Hid (SliceAt wr 2 Mem.enc ay (ratesAll ms (rs.take k))) ∧ Hid (ay = none → ratesAll ms (rs.take k) = []) ∧ Below wl.heap.size wl wr) (fun iv _ => rs.length - (intOf iv).toNat)
          case atStart => exact ⟨0, a, cap, Nat.zero_le _, rfl, V16, SM2, Lib.hid (fun h => (HN.out h).1), hbm⟩
          case round =>
            clear V16 SM2 hbm
            obtain ⟨k, ay, capy, hkl, rfl, V16, SY, HY, hbr⟩ := hrel
            by_cases hlt : k < rs.length
            · obtain ⟨rb, ro, rfl, hcs⟩ := (SR.out.kept hbr).open hlt
              obtain ⟨q0, q1, q2, q3⟩ := resAt_of hcs hlt
              have HNX := Lib.hid (HSTEP.out k hlt)
              have HCF := Lib.hid (fit_names HF.out (rates_names ms (rs.take k)))
              have HCL : Hid ((ratesAll ms (rs.take k)).length ≤ 1048576) := Lib.hid (by rw [ratesAll_len]; omega)
              have HRK := Lib.hid (HRF.out _ (List.getElem_mem hlt))
              obtain ⟨nxt, hnx⟩ : ∃ nxt, ratesAll ms (rs.take (k + 1)) = nxt := ⟨_, rfl⟩
              have HNC := Lib.hid hnx
              rw [hnx] at HNX
              generalize ratesAll ms (rs.take k) = cur at *
              obtain ⟨gv, hgv⟩ : ∃ gv, (rateOf cur rs[k]).2 = gv := ⟨_, rfl⟩
              rw [hgv] at HNX
              have c16 := V16.out.cell (i := 0) rfl
              have hbs := hbr.size
              have hlw := V16.out.lt
              clear hcs hnx hgv
              go_upto_region 25 with fail
              go_cut [18, 19, 20] (fun s18 s19 s20 wx => Boxed wr wx 56 2 s18 (rateResult cur rs[k]).1.length ((rateResult cur rs[k]).1.flatMap Mem.enc) ∧ s19 = .int .i64 (rateResult cur rs[k]).2.1 ∧ s20 = .int .i64 (rateResult cur rs[k]).2.2)
              case first =>
                have hk : Below wr.heap.size wr wr.drew := (Below.refl _ _).drew
                have l_c := block_lt c16
                have l_q := block_lt q0
                have k_c : wr.drew.cell? ⟨wl.heap.size, 0, none⟩ = some (.slice ay cur.length capy) := c16
                have k_q0 : wr.drew.cell? ⟨rb, ro + k * 4, none⟩ = some (.string rs[k].a) := q0
                have k_q1 : wr.drew.cell? ⟨rb, ro + k * 4 + 1, none⟩ = some (.string rs[k].b) := q1
                have k_q2 : wr.drew.cell? ⟨rb, ro + k * 4 + 2, none⟩ = some (.int .i64 rs[k].sa) := q2
                have k_q3 : wr.drew.cell? ⟨rb, ro + k * 4 + 3, none⟩ = some (.int .i64 rs[k].sb) := q3
                go_region_held3 (fun w' => w'.cell? ⟨wl.heap.size, 0, none⟩ = some (.slice ay cur.length capy) ∧ w'.cell? ⟨rb, ro + k * 4, none⟩ = some (.string rs[k].a) ∧ w'.cell? ⟨rb, ro + k * 4 + 1, none⟩ = some (.string rs[k].b) ∧ w'.cell? ⟨rb, ro + k * 4 + 2, none⟩ = some (.int .i64 rs[k].sa) ∧ w'.cell? ⟨rb, ro + k * 4 + 3, none⟩ = some (.int .i64 rs[k].sb))
                  (first | exact ⟨k_c, k_q0, k_q1, k_q2, k_q3⟩ | exact ⟨(cell_alloc k_c _), (cell_alloc k_q0 _), (cell_alloc k_q1 _), (cell_alloc k_q2 _), (cell_alloc k_q3 _)⟩ | exact ⟨(cell_far k_c (by omega) _), (cell_far k_q0 (by omega) _), (cell_far k_q1 (by omega) _), (cell_far k_q2 (by omega) _), (cell_far k_q3 (by omega) _)⟩ | exact ⟨(cell_newfar k_c _ _), (cell_newfar k_q0 _ _), (cell_newfar k_q1 _ _), (cell_newfar k_q2 _ _), (cell_newfar k_q3 _ _)⟩)
                  ((go_at_call 20; (try ((first | refine calls_alloc ?_ | refine calls_alloc_drew ?_); intro wz hxz hcz hfz; have hgz := hk.size; replace hk := hk.trans (hxz.mono hk.size); replace k_c := cell_kept k_c hxz; replace k_q0 := cell_kept k_q0 hxz; replace k_q1 := cell_kept k_q1 hxz; replace k_q2 := cell_kept k_q2 hxz; replace k_q3 := cell_kept k_q3 hxz; clear hxz)); refine (RateResult_any cur rs[k] ay capy _ (SY.out.kept hk) HY.out HCL.out HCF.out HRK.out).mono ?_; rintro e wq ⟨a2, cap2, rfl, hoq, hdq⟩; have HO := Lib.hid hoq; have hBq := hk.size; (try have hgb := block_lt hcz); clear hoq; (try replace hfz := frozen_kept hfz hcz hdq); (try replace hcz := cell_kept hcz hdq); replace hk := hk.trans (hdq.mono hk.size); replace k_c := cell_kept k_c hdq; replace k_q0 := cell_kept k_q0 hdq; replace k_q1 := cell_kept k_q1 hdq; replace k_q2 := cell_kept k_q2 hdq; replace k_q3 := cell_kept k_q3 hdq; clear hdq))
                all_goals (go_wp2_with fail; go_meet; first | exact ⟨boxed_early hk hcz hgz HO.out hgb, rfl, rfl⟩ | exact ⟨boxed_late hk HO.out hBq, rfl, rfl⟩)
              case rest =>
                generalize wc = wA at *
                obtain ⟨hbox, rfl, rfl⟩ := hcut
                rw [HNX.out] at hbox ⊢
                obtain ⟨g6, a9, cap9, rfl, hg6, c6, O6, n6, hd⟩ := hbox
                simp only at c6 O6
                replace V16 := Lib.hid (V16.out.kept hd)
                have hb2 := Lib.hid (hbr.trans (hd.mono hbr.size))
                obtain ⟨o7, g7⟩ := V16.out.set 0 (.slice a9 nxt.length cap9)
                have S7 := Lib.hid (own_slice Mem.enc_len (O6.kept g7 (.inr (own_en O6 hlw))) rfl)
                have N7 := Lib.hid (own_nil O6 rfl)
                have V7 := Lib.hid o7
                have c16 := V16.out.cell (i := 0) rfl
                have f16 := V16.out.free 0
                have hb7 := Lib.hid (hb2.out.trans (below_row g7 (Nat.le_refl _) (hb2.out.size)))
                clear hd O6 n6 o7 g7 HNX q0 q1 q2 q3
                go_wp2
                go_roundw
                case rel => exact ⟨k + 1, a9, cap9, by omega, by go_num, by rw [HNC.out]; exact V7, by rw [HNC.out]; exact S7, by rw [HNC.out]; exact N7, hb7.out⟩
                case measure => simp [intOf]; omega
            · obtain rfl : k = rs.length := by omega
              rw [List.take_length] at V16 SY HY
              have c16 := V16.out.cell (i := 0) rfl
              have c9 := (V9.out.kept hbr).cell (i := 0) rfl
              have X9 := Lib.hid (X1.out.kept hbr)
              go_wp2_with (go_at_call 39; refine (sameClub_any (ratesAll ms rs) ay a6 capy cap6 _ SY.out X9.out HXL.out).mono ?_; rintro e w11 ⟨rfl, hd⟩)
              go_ret
              exact ⟨rfl, hb.trans ((hbr.mono hb.size).trans (hd.mono (Nat.le_trans hb.size hbr.size)))⟩
end Go.Proofs.Ytpodkgfapbcmlaa
