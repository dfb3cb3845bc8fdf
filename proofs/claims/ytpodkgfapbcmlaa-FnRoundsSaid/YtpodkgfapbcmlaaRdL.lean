/- The law of FnRounds: for every code the statement's own function answers true. No condition on the code. -/
import Derived.Test.YtpodkgfapbcmlaaDrH
import Derived.Test.YtpodkgfapbcmlaaPrG
import Derived.Test.YtpodkgfapbcmlaaTbL
namespace Go.Proofs.Ytpodkgfapbcmlaa
open Go.ChangeShapes Go.WideShapes Go.ChangeAt Go.RowKit Go.Sort

theorem played_swap (rs : List Res) (x y : ByteArray) : played rs x y = played rs y x := by
  unfold played
  congr 1
  funext r
  unfold playedB
  exact Bool.or_comm _ _
theorem round_nil {ms : List Mem} {rs : List Res} (h : (pairRound ms rs).2 ≠ 0) : (pairRound ms rs).1 = [] := by
  by_cases hc : codeOf ms rs = 0
  · rw [pairRound_ok hc] at h ⊢
    unfold roundOf at h ⊢
    split
    · rename_i h1
      rw [if_pos h1] at h
      split
      · rename_i h2
        rw [if_pos h2] at h
        exact absurd rfl h
      · rfl
    · rename_i h1
      rw [if_neg h1] at h
      split
      · rename_i h2
        rw [if_pos h2] at h
        exact absurd rfl h
      · rfl
  · rw [pairRound_bad hc]
theorem hasB_take_succ {xs : List ByteArray} {s : ByteArray} {k : Nat} (h : k < xs.length) : hasB (xs.take (k + 1)) s = (hasB (xs.take k) s || xs[k].toList == s.toList) := by
  unfold hasB
  rw [List.take_succ_eq_append_getElem h, List.any_append]
  simp
theorem hasB_hit {xs : List ByteArray} {s : ByteArray} {k : Nat} (h : k < xs.length) (e : (xs[k].toList == s.toList) = true) : hasB xs s = true := by
  unfold hasB
  rw [List.any_eq_true]
  exact ⟨xs[k], List.getElem_mem h, e⟩
theorem hasB_end {xs : List ByteArray} {s : ByteArray} {k : Nat} (h : ¬ k < xs.length) (e : hasB (xs.take k) s = false) : hasB xs s = false := by
  rwa [List.take_of_length_le (by omega)] at e
set_option maxHeartbeats 2000000 in
theorem f6has_any (xs : List ByteArray) (s : ByteArray) (a : Option Addr) (cap : Nat) (w : World) (hm : SliceAt w 1 Nm.enc a xs) (hl : xs.length ≤ 9223372036854775807) :
    Calls Try.prog 52 #[.slice a xs.length cap, .string s] w fun e w' => e = .returned (.bool (hasB xs s)) ∧ w = w' := by
  have HM := Lib.hid hm; clear hm
  go_enter Try.func52, Try.ntmps52
  go_wp2
  go_loop [5] (fun i => ∃ k : Nat, k ≤ xs.length ∧ i = .int .i64 k ∧ Hid (hasB (xs.take k) s = false)) (fun i => xs.length - (intOf i).toNat)
  case atStart => exact ⟨0, Nat.zero_le _, rfl, Lib.hid (by simp [hasB])⟩
  case round =>
    obtain ⟨k, hk, rfl, HF⟩ := hrel
    by_cases hlt : k < xs.length
    · obtain ⟨mb, mo, rfl, hc⟩ := HM.out.open hlt
      have c0 := hc.at0 hlt rfl
      rw [Nat.mul_one] at c0
      have HS := Lib.hid (hasB_take_succ (s := s) hlt)
      clear hc
      cases h1 : (xs[k].toList == s.toList) with
      | true =>
        have HE := Lib.hid (hasB_hit hlt h1)
        go_wp2
        go_ret
        exact ⟨ret_bool HE.out.symm, rfl⟩
      | false =>
        have HE := Lib.hid h1
        go_wp2
        go_round
        case rel => exact ⟨k + 1, by omega, by go_num, Lib.hid (by rw [HS.out, HF.out, HE.out]; rfl)⟩
        case measure => simp [intOf]; omega
    · go_wp2
      go_ret
      exact ⟨ret_bool (hasB_end hlt HF.out).symm, rfl⟩
theorem specHavePlayed_any (rs : List Res) (x y : ByteArray) (a : Option Addr) (cap : Nat) (w : World) (hm : SliceAt w 4 Res.enc a rs) (hl : rs.length ≤ 9223372036854775807) :
    Calls Try.prog 54 #[.slice a rs.length cap, .string x, .string y] w fun e w' => e = .returned (.bool (played rs x y)) ∧ w = w' := by
  have HM := Lib.hid hm; clear hm
  go_enter Try.func54, Try.ntmps54
  go_wp2_with (go_at_call 97; refine (l26Played_any rs x y a cap w HM.out hl).mono ?_; rintro e w' ⟨rfl, rfl⟩)
  go_ret
  exact ⟨rfl, rfl⟩
theorem nm_one' (s : ByteArray) : ∀ u ∈ Nm.enc s, u.oneCell' = true := by
  intro u hu
  simp only [Nm.enc, List.mem_cons, List.not_mem_nil, or_false] at hu
  rw [hu]; rfl
theorem flat_take_succ {ps : List Pai} {k : Nat} (h : k < ps.length) : flatNames (ps.take (k + 1)) = flatNames (ps.take k) ++ pairNames ps[k] := by
  unfold flatNames
  rw [List.take_succ_eq_append_getElem h, List.flatMap_append]
  simp
theorem flat_le (ps : List Pai) : (flatNames ps).length ≤ 2 * ps.length := by
  induction ps with
  | nil => simp [flatNames]
  | cons p ps ih =>
    have h1 : (pairNames p).length ≤ 2 := by unfold pairNames; split <;> simp
    have e : flatNames (p :: ps) = pairNames p ++ flatNames ps := by simp [flatNames]
    rw [e, List.length_append, List.length_cons]
    omega
theorem pair_one {p : Pai} (h : p.b.toList.isEmpty = true) : pairNames p = [p.a] := by unfold pairNames; rw [if_pos h]
theorem pair_two {p : Pai} (h : p.b.toList.isEmpty = false) : pairNames p = [p.a, p.b] := by unfold pairNames; rw [if_neg (by rw [h]; exact Bool.false_ne_true)]
set_option maxRecDepth 100000 in
set_option maxHeartbeats 8000000 in
theorem lawRounds_any (ca : Option Addr) (ccap : Nat) (bs : List Int) (w : World) (hs : SliceAt w 1 Byt.enc ca bs) (hbd : ∀ x ∈ bs, 0 ≤ x ∧ x ≤ 255) :
    Calls Try.prog 10 #[.slice ca bs.length ccap] w fun e w' => e = .returned (.bool true) ∧ Below w.heap.size w w' := by
  by_cases hbig : 4096 < bs.length
  · have hd : decide ((4096 : Int) < bs.length) = true := by rw [decide_eq_true_eq]; omega
    clear hs hbd
    go_enter Try.func10, Try.ntmps10
    go_wp2_with fail
    refine (f6big_any ca bs.length ccap w).mono ?_
    rintro e w1 ⟨rfl, rfl⟩
    rw [hd]
    go_wp2
    go_ret
    exact ⟨rfl, Below.refl _ _⟩
  · have hd : decide ((4096 : Int) < bs.length) = false := by rw [decide_eq_false_iff_not]; omega
    have HC : Hid (CodeAt w w.heap.size ca bs) := Lib.hid ⟨hs, hbd, by omega, fun h0 cb co e => by
      obtain ⟨b', o', e', hc⟩ := hs.open h0
      rw [e] at e'
      simp only [Option.some.injEq, Addr.mk.injEq, and_true] at e'
      rw [e'.1]
      exact block_lt (hc.at0 h0 rfl)⟩
    clear hs hbd
    obtain ⟨i0, hi0, hi1, hi2, hi3⟩ := info_parts infoName
    go_enter Try.func10, Try.ntmps10
    go_wp2_with fail
    refine (f6big_any ca bs.length ccap w).mono ?_
    rintro e w1 ⟨rfl, rfl⟩
    rw [hd]
    clear hd hbig
    go_wp2_with fail
    refine (DrawPairRound_any ca ccap bs w HC.out).mono ?_
    rintro e w2 ⟨a, cap, ms, ra, rcap, rs, rfl, h1, h2, h3, h4, h5, h6, h7, _, _, hb⟩
    have SM := Lib.hid h1
    have SR := Lib.hid h2
    have HN := Lib.hid h3
    have HF := Lib.hid h6
    have HRF := Lib.hid h7
    clear h1 h2 h3 h6 h7
    have hd : Below w2.heap.size w2 (w2.alloc (.cells #[.slice a ms.length cap] 30)) := (Below.refl _ _).alloc (Nat.le_refl _) _
    have V3 := Lib.hid (VarAt.new w2 30 [.slice a ms.length cap])
    replace hb := hb.trans (hd.mono hb.size)
    replace SM := Lib.hid (SM.out.kept hd)
    replace SR := Lib.hid (SR.out.kept hd)
    clear hd
    generalize hB : w2.heap.size = B3 at *
    obtain ⟨w3, hw3⟩ : ∃ w3, w2.alloc (.cells #[.slice a ms.length cap] 30) = w3 := ⟨_, rfl⟩
    rw [hw3] at V3 SM SR hb
    have c3 := V3.out.cell (i := 0) rfl
    go_wp2_with fail
    clear hw3 hB
    refine (PairRound_any ms rs a ra cap rcap w3 SM.out SR.out (by omega) (by omega) HF.out HRF.out).mono ?_
    rintro e w4 ⟨a4, cap4, rfl, ho, hd⟩
    have T1 := Lib.hid (own_slice Pai.enc_len ho rfl)
    replace V3 := Lib.hid (V3.out.kept hd)
    replace hb := hb.trans (hd.mono hb.size)
    replace c3 := cell_kept c3 hd
    replace SM := Lib.hid (SM.out.kept hd)
    replace SR := Lib.hid (SR.out.kept hd)
    clear hd
    clear ho
    go_wp2_with fail
    refine (specPairRound_anyN ms rs a ra cap rcap w4 SM.out HN.out SR.out (by omega) (by omega) HF.out HRF.out).mono ?_
    rintro e w5 ⟨a5, cap5, rfl, ho, hd⟩
    have T2 := Lib.hid (own_slice Pai.enc_len ho rfl)
    replace V3 := Lib.hid (V3.out.kept hd)
    replace hb := hb.trans (hd.mono hb.size)
    replace c3 := cell_kept c3 hd
    replace SM := Lib.hid (SM.out.kept hd)
    replace SR := Lib.hid (SR.out.kept hd)
    replace T1 := Lib.hid (T1.out.kept hd)
    clear hd
    clear ho
    have hcode : (pairRound ms rs).2 = 0 ∨ (pairRound ms rs).2 ≠ 0 := by omega
    have HLAW := Lib.hid (fun h : (pairRound ms rs).2 = 0 => round_law h)
    have HNIL := Lib.hid (fun h : (pairRound ms rs).2 ≠ 0 => round_nil h)
    have HLE := Lib.hid (fun h : (pairRound ms rs).2 = 0 => round_le h)
    have HPF := Lib.hid (fun h : (pairRound ms rs).2 = 0 => round_fit h HF.out)
    generalize (pairRound ms rs).1 = P at *
    generalize (pairRound ms rs).2 = code at *
    have hP : P.length ≤ 13 := by
      rcases hcode with h | h
      · have := HLE.out h; omega
      · rw [HNIL.out h]; simp
    clear hcode HLE
    have hB5 : w.heap.size ≤ w5.heap.size := hb.size
    have HXB : Hid (0 < P.length → ∀ b o, a4 = some ⟨b, o, none⟩ → b < w5.heap.size) := Lib.hid (fun h0 b o e => by
      obtain ⟨b', o', e', hc⟩ := T1.out.open h0
      rw [e] at e'
      simp only [Option.some.injEq, Addr.mk.injEq, and_true] at e'
      rw [e'.1]
      exact block_lt (hc.at0 h0 rfl))
    have hbr0 : Below w5.heap.size w5 (w5.alloc (.cells #[] 9)) := (Below.refl _ _).alloc (Nat.le_refl _) _
    have HR := Lib.hid (World.ownsRow_made (base := w5.heap.size) (e := 9) (size := 1) w5 #[] 0 (by simp) (by unfold maxLen; omega) rfl)
    have HBR := Lib.hid hbr0
    clear hbr0
    go_wp2_with fail
    go_loopw [9, 10] (fun sv iv wr => ∃ (k : Nat) (sa : Option Addr) (scap : Nat), k ≤ P.length ∧ iv = .int .i64 k ∧ sv = .slice sa (flatNames (P.take k)).length scap ∧ Hid (wr.ownsRow w5.heap.size 9 1 (.slice sa (flatNames (P.take k)).length scap) (flatNames (P.take k)).length ((flatNames (P.take k)).flatMap Nm.enc)) ∧ Below w5.heap.size w5 wr) (fun _ iv _ => P.length - (intOf iv).toNat)
    case atStart => exact ⟨0, _, _, Nat.zero_le _, rfl, rfl, HR, HBR.out⟩
    case round =>
      clear HR HBR
      obtain ⟨k, sa, scap, hk, rfl, rfl, HR, hbr⟩ := hrel
      have hwr := hbr.size
      by_cases hlt : k < P.length
      · have hc0 : code = 0 := by
          by_cases h : code = 0
          · exact h
          · rw [HNIL.out h] at hlt; simp at hlt
        obtain ⟨l1, l2, l3, l4⟩ := (HLAW.out hc0).1 k hlt
        obtain ⟨xb, xo, rfl, hcx⟩ := (T1.out.kept hbr).open hlt
        obtain ⟨yb, yo, rfl, hcy⟩ := (T2.out.kept hbr).open hlt
        have hxb : xb < w5.heap.size := HXB.out (by omega) xb xo rfl
        have p0 := hcx.at0 hlt rfl
        have p1 := hcx k hlt 1 (.string P[k].b) rfl
        have q0 := hcy.at0 hlt rfl
        have q1 := hcy k hlt 1 (.string P[k].b) rfl
        have hfl := flat_le (P.take k)
        have hfl2 : (P.take k).length ≤ k := List.length_take_le _ _
        have HT := Lib.hid (flat_take_succ hlt)
        have SR2 := Lib.hid (SR.out.kept hbr)
        have HFP := Lib.hid (HPF.out hc0 _ (List.getElem_mem hlt))
        have HH : Hid (∀ wx, SliceAt wx 4 Res.enc ra rs → Calls Try.prog 51 #[.slice ra rs.length rcap, .string P[k].a, .string P[k].b] wx fun e w' => e = .returned (.bool false) ∧ Below wx.heap.size wx w') := Lib.hid (fun wx h => by have := HavePlayed_any rs P[k].a P[k].b ra rcap wx h (by omega); rw [l1] at this; exact this)
        generalize flatNames (P.take k) = S at *
        have HA : Hid (∀ wx, SliceAt wx 1 Nm.enc sa S → Calls Try.prog 52 #[.slice sa S.length scap, .string P[k].a] wx fun e w' => e = .returned (.bool false) ∧ Below wx.heap.size wx w') := Lib.hid (fun wx h => by have := f6has_any S P[k].a sa scap wx h (by omega); rw [l2] at this; exact this.mono (fun e w' ⟨h1, h2⟩ => ⟨h1, h2 ▸ Below.refl _ _⟩))
        have HB : Hid (∀ wx, SliceAt wx 1 Nm.enc sa S → Calls Try.prog 52 #[.slice sa S.length scap, .string P[k].b] wx fun e w' => e = .returned (.bool false) ∧ Below wx.heap.size wx w') := Lib.hid (fun wx h => by have := f6has_any S P[k].b sa scap wx h (by omega); rw [l3] at this; exact this.mono (fun e w' ⟨h1, h2⟩ => ⟨h1, h2 ▸ Below.refl _ _⟩))
        have SS := Lib.hid (own_slice Nm.enc_len HR.out rfl)
        clear l1 l2 l3 hcx hcy HXB HPF HLAW HNIL SR hc0
        generalize P[k] = pq at *
        cases hbe : pq.b.toList.isEmpty with
        | true =>
          have hi : ((k : Int) != (P.length : Int) - 1) = false := by have := l4 hbe; simp; omega
          have HT1 := Lib.hid (pair_one hbe)
          go_wp2_with fail
          have e0 := cell_regrown p0
          have e1 := cell_regrown p1
          have f0 := cell_regrown q0
          have f1 := cell_regrown q1
          refine wp_region_quiet_below (by kernel_rfl) (by kernel_rfl) ?_
          repeat (go_big_quiet_step ((first
            | (go_at_call 51; exact Calls.regrown_of (HH.out _ (SR2.out.kept (below_regrown _ _ _))))
            | (go_at_call_of 52 (Value.string pq.a); exact Calls.regrown_of (HA.out _ (SS.out.kept (below_regrown _ _ _))))
            | (go_at_call_of 52 (Value.string pq.b); exact Calls.regrown_of (HB.out _ (SS.out.kept (below_regrown _ _ _)))))))
          refine wpQuiet_nil ?_
          intro wx hw'
          obtain ⟨⟨dq, oq⟩, hw''⟩ := hw'
          have hd : Below wr.heap.size wr wx := by rw [hw'']; exact below_regrown wr dq oq
          clear hw'' e0 e1 f0 f1
          replace p0 := cell_kept p0 hd
          replace p1 := cell_kept p1 hd
          replace HR := Lib.hid (own_below HR.out hd)
          replace hbr := hbr.trans (hd.mono hbr.size)
          go_upto_region 14 with fail
          have hx : Below wx.heap.size wx (wx.alloc (.cells #[.string pq.a] 9)) := (Below.refl _ _).alloc (Nat.le_refl _) _
          have KN := Lib.hid (nm_new wx pq.a 9)
          have HP1 := Lib.hid (cell_kept p1 hx)
          replace HR := Lib.hid (own_below HR.out hx)
          replace hbr := hbr.trans (hx.mono hbr.size)
          clear hx
          go_wp2_with (at_builtin; go_must (refine wpList_append_own _ rfl (.tmp 106) (.tmp 112) 80 rfl w5.heap.size 9 i0 _ 1 16 Try.underlying80 hi0 hi1 hi2 hi3 rfl (by decide) _ S.length (S.flatMap Nm.enc) rfl HR.out ⟨wx.heap.size, 0, none⟩ 1 1 (Nm.enc pq.a) rfl rfl KN.out (nm_one' pq.a) ?c1 ?c2 ?c3 ?_))
          case c1 => unfold maxLen; (try simp); omega
          case c2 => (try simp); omega
          case c3 => exact hbr.size
          intro v' w7 hown hgr _
          obtain ⟨sa7, scap7, rfl⟩ := own_shape hown
          clear p0
          replace p1 := hgr.cell HP1.out (own_ne HR.out hxb)
          replace hbr := hbr.grown hgr hbr.size (fun q e => (HR.out.lt q e).1)
          replace HR := Lib.hid (own_as hown (flat_snoc Nm.enc S _))
          clear hown hgr KN HP1
          go_wp2
          go_roundw
          case rel =>
            have e : flatNames (P.take (k + 1)) = S ++ [pq.a] := by rw [HT.out, HT1.out]
            refine ⟨k + 1, sa7, scap7, by omega, by go_num, by rw [e, List.length_append]; rfl, ?_, hbr⟩
            rw [e, List.length_append]
            exact HR
          case measure => simp [intOf]; omega
        | false =>
          have HT1 := Lib.hid (pair_two hbe)
          go_wp2_with fail
          have e0 := cell_regrown p0
          have e1 := cell_regrown p1
          have f0 := cell_regrown q0
          have f1 := cell_regrown q1
          refine wp_region_quiet_below (by kernel_rfl) (by kernel_rfl) ?_
          repeat (go_big_quiet_step ((first
            | (go_at_call 51; exact Calls.regrown_of (HH.out _ (SR2.out.kept (below_regrown _ _ _))))
            | (go_at_call_of 52 (Value.string pq.a); exact Calls.regrown_of (HA.out _ (SS.out.kept (below_regrown _ _ _))))
            | (go_at_call_of 52 (Value.string pq.b); exact Calls.regrown_of (HB.out _ (SS.out.kept (below_regrown _ _ _)))))))
          refine wpQuiet_nil ?_
          intro wx hw'
          obtain ⟨⟨dq, oq⟩, hw''⟩ := hw'
          have hd : Below wr.heap.size wr wx := by rw [hw'']; exact below_regrown wr dq oq
          clear hw'' e0 e1 f0 f1
          replace p0 := cell_kept p0 hd
          replace p1 := cell_kept p1 hd
          replace HR := Lib.hid (own_below HR.out hd)
          replace hbr := hbr.trans (hd.mono hbr.size)
          go_upto_region 14 with fail
          have hx : Below wx.heap.size wx (wx.alloc (.cells #[.string pq.a] 9)) := (Below.refl _ _).alloc (Nat.le_refl _) _
          have KN := Lib.hid (nm_new wx pq.a 9)
          have HP1 := Lib.hid (cell_kept p1 hx)
          replace HR := Lib.hid (own_below HR.out hx)
          replace hbr := hbr.trans (hx.mono hbr.size)
          clear hx
          go_wp2_with (at_builtin; go_must (refine wpList_append_own _ rfl (.tmp 106) (.tmp 112) 80 rfl w5.heap.size 9 i0 _ 1 16 Try.underlying80 hi0 hi1 hi2 hi3 rfl (by decide) _ S.length (S.flatMap Nm.enc) rfl HR.out ⟨wx.heap.size, 0, none⟩ 1 1 (Nm.enc pq.a) rfl rfl KN.out (nm_one' pq.a) ?c1 ?c2 ?c3 ?_))
          case c1 => unfold maxLen; (try simp); omega
          case c2 => (try simp); omega
          case c3 => exact hbr.size
          intro v' w7 hown hgr _
          obtain ⟨sa7, scap7, rfl⟩ := own_shape hown
          clear p0
          replace p1 := hgr.cell HP1.out (own_ne HR.out hxb)
          replace hbr := hbr.grown hgr hbr.size (fun q e => (HR.out.lt q e).1)
          replace HR := Lib.hid (own_as hown (flat_snoc Nm.enc S _))
          clear hown hgr KN HP1
          have HL8 : Hid ((S ++ [pq.a]).length = S.length + 1) := Lib.hid (by simp)
          have HT8 : Hid (flatNames (P.take (k + 1)) = (S ++ [pq.a]) ++ [pq.b]) := Lib.hid (by rw [HT.out, HT1.out]; simp)
          obtain ⟨S2, hS2⟩ : ∃ S2, S ++ [pq.a] = S2 := ⟨_, rfl⟩
          rw [hS2] at HR HT8 HL8
          clear hS2
          have hx : Below w7.heap.size w7 (w7.alloc (.cells #[.string pq.b] 9)) := (Below.refl _ _).alloc (Nat.le_refl _) _
          have KN := Lib.hid (nm_new w7 pq.b 9)
          have HP1 := Lib.hid (cell_kept p1 hx)
          replace HR := Lib.hid (own_below HR.out hx)
          replace hbr := hbr.trans (hx.mono hbr.size)
          clear hx
          go_wp2_with (at_builtin; go_must (refine wpList_append_own _ rfl (.tmp 120) (.tmp 126) 80 rfl w5.heap.size 9 i0 _ 1 16 Try.underlying80 hi0 hi1 hi2 hi3 rfl (by decide) _ (S.length + 1) (S2.flatMap Nm.enc) rfl HR.out ⟨w7.heap.size, 0, none⟩ 1 1 (Nm.enc pq.b) rfl rfl KN.out (nm_one' pq.b) ?c1 ?c2 ?c3 ?_))
          case c1 => unfold maxLen; (try simp); omega
          case c2 => (try simp); omega
          case c3 => exact hbr.size
          intro v' w8 hown hgr _
          obtain ⟨sa8, scap8, rfl⟩ := own_shape hown
          replace hbr := hbr.grown hgr hbr.size (fun q e => (HR.out.lt q e).1)
          replace HR := Lib.hid (own_as hown (flat_snoc Nm.enc S2 _))
          clear hown hgr KN HP1
          go_wp2
          go_roundw
          case rel =>
            refine ⟨k + 1, sa8, scap8, by omega, by go_num, by rw [HT8.out, List.length_append, HL8.out]; rfl, ?_, hbr⟩
            rw [HT8.out, List.length_append, HL8.out]
            exact HR
          case measure => simp [intOf]; omega
      · obtain rfl : k = P.length := by omega
        rw [List.take_length] at HR ⊢
        have hb7 := hb.trans (hbr.mono hB5)
        have HC3 : Hid (CodeAt wr wr.heap.size ca bs) := by
          obtain ⟨c1, c2, c3, c4⟩ := HC.out
          exact Lib.hid ⟨c1.kept hb7, c2, c3, fun h0 cb co e => by have := c4 h0 cb co e; have := hb7.size; omega⟩
        replace V3 := Lib.hid (V3.out.kept hbr)
        have hfin : code = 0 ∧ (flatNames P).length = ms.length ∨ code ≠ 0 := by
          by_cases h : code = 0
          · exact .inl ⟨h, (HLAW.out h).2⟩
          · exact .inr h
        have hfl := flat_le P
        have HFIN := Lib.hid hfin
        clear hfin HR HC HLAW HNIL HPF HXB T1 T2 SM SR hbr hb hwr c3
        generalize (flatNames P).length = nf at *
        go_wp2_with fail
        refine (DrawHavePlayed_any ca ccap bs wr HC3.out).mono ?_
        rintro e w7 ⟨rb, rbcap, rz, x, y, rfl, h1, h2, hd⟩
        have SZ := Lib.hid h1
        replace V3 := Lib.hid (V3.out.kept hd)
        replace hb7 := hb7.trans (hd.mono hb7.size)
        clear h1 hd HC3
        obtain ⟨pv, hpv⟩ : ∃ pv, played rz x y = pv := ⟨_, rfl⟩
        have HA : Hid (∀ wx, SliceAt wx 4 Res.enc rb rz → Calls Try.prog 51 #[.slice rb rz.length rbcap, .string x, .string y] wx fun e w' => e = .returned (.bool pv) ∧ Below wx.heap.size wx w') := Lib.hid (fun wx h => by have := HavePlayed_any rz x y rb rbcap wx h (by omega); rw [hpv] at this; exact this)
        have HB : Hid (∀ wx, SliceAt wx 4 Res.enc rb rz → Calls Try.prog 51 #[.slice rb rz.length rbcap, .string y, .string x] wx fun e w' => e = .returned (.bool pv) ∧ Below wx.heap.size wx w') := Lib.hid (fun wx h => by have := HavePlayed_any rz y x rb rbcap wx h (by omega); rw [played_swap, hpv] at this; exact this)
        have HS : Hid (∀ wx, SliceAt wx 4 Res.enc rb rz → Calls Try.prog 54 #[.slice rb rz.length rbcap, .string x, .string y] wx fun e w' => e = .returned (.bool pv) ∧ wx = w') := Lib.hid (fun wx h => by have := specHavePlayed_any rz x y rb rbcap wx h (by omega); rw [hpv] at this; exact this)
        clear hpv
        have hpp : (pv != pv) = false := by cases pv <;> rfl
        go_wp2_with fail
        refine (HA.out _ SZ.out).mono ?_
        rintro e w8 ⟨rfl, hd⟩
        replace SZ := Lib.hid (SZ.out.kept hd)
        replace V3 := Lib.hid (V3.out.kept hd)
        replace hb7 := hb7.trans (hd.mono hb7.size)
        clear hd
        go_wp2_with fail
        refine (HS.out _ SZ.out).mono ?_
        rintro e w9 ⟨rfl, rfl⟩
        go_wp2_with fail
        refine (HA.out _ SZ.out).mono ?_
        rintro e w9 ⟨rfl, hd⟩
        replace SZ := Lib.hid (SZ.out.kept hd)
        replace V3 := Lib.hid (V3.out.kept hd)
        replace hb7 := hb7.trans (hd.mono hb7.size)
        clear hd
        go_wp2_with fail
        refine (HB.out _ SZ.out).mono ?_
        rintro e wA ⟨rfl, hd⟩
        replace V3 := Lib.hid (V3.out.kept hd)
        replace hb7 := hb7.trans (hd.mono hb7.size)
        clear hd SZ
        have c3 := V3.out.cell (i := 0) rfl
        rcases HFIN.out with ⟨h, h2⟩ | h
        · subst h
          have hq : ((nf : Int) == (ms.length : Int)) = true := by rw [h2]; simp
          clear h2 HFIN
          go_wp2
          go_ret
          exact ⟨rfl, hb7⟩
        · have hq : (code != 0) = true := by simpa using h
          clear HFIN
          go_wp2
          go_ret
          exact ⟨rfl, hb7⟩
end Go.Proofs.Ytpodkgfapbcmlaa
