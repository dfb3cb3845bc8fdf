/- Contract: PairRound (program). -/
import Derived.Test.YtpodkgfapbcmlaaPrF
namespace Go.Proofs.Ytpodkgfapbcmlaa
open Go.ChangeShapes Go.WideShapes Go.ChangeAt Go.RowKit Go.Sort

set_option maxRecDepth 100000 in
set_option maxHeartbeats 40000000 in
theorem PairRound_any (ms : List Mem) (rs : List Res) (a ra : Option Addr) (cap rcap : Nat) (w : World) (hm : SliceAt w 2 Mem.enc a ms) (hr : SliceAt w 4 Res.enc ra rs) (hl : ms.length ≤ 1048576) (hlr : rs.length ≤ 1048576) (hf : MemsFit ms) (hfr : ResFit rs) :
    Calls Try.prog 49 #[.agg #[.slice a ms.length cap], .slice ra rs.length rcap] w (RowsCode w 82 2 Pai.enc (pairRound ms rs)) := by
  have HM := Lib.hid hm; clear hm
  have HRS := Lib.hid hr; clear hr
  have HFR := Lib.hid hfr; clear hfr
  have hb : Below w.heap.size w (w.alloc (.cells #[.slice a ms.length cap] 30)) := (Below.refl _ _).alloc (Nat.le_refl _) _
  have c1 := cell_new0 w #[.slice a ms.length cap] 30 (i := 0) (v := .slice a ms.length cap) rfl
  cases hcode : (codeOf ms rs == 0) with
  | false =>
    have hcd : codeOf ms rs ≠ 0 := by simpa using hcode
    have HR := Lib.hid (pairRound_bad hcd)
    have HCN := Lib.hid hcd
    clear hcode hcd
    go_enter Try.func49, Try.ntmps49
    go_wp2_with fail
    generalize w.alloc (.cells #[.slice a ms.length cap] 30) = w1 at *
    refine (resultsCode_any ms rs a ra cap rcap w1 (HM.out.kept hb) (HRS.out.kept hb) hl hlr hf HFR.out).mono ?_
    rintro e w3 ⟨rfl, hd⟩
    replace hb := hb.trans (hd.mono hb.size)
    clear hd
    obtain ⟨code, hcg⟩ : ∃ code, codeOf ms rs = code := ⟨_, rfl⟩
    have hcn := HCN.out
    rw [hcg] at hcn ⊢
    have HCG := Lib.hid hcg
    clear hcg
    go_wp2
    go_ret2
    rw [HR.out, HCG.out]
    exact ⟨none, 0, rfl, by simpa using World.ownsRow_nil _ w.heap.size 82 2, hb⟩
  | true =>
    have hcd : codeOf ms rs = 0 := by simpa using hcode
    have HR := Lib.hid (pairRound_ok hcd)
    obtain ⟨z1, z2, z3, z4⟩ := code_zero hcd
    have z12 : ms.length ≤ 12 := by
      simp only [clubOk, Bool.and_eq_true, decide_eq_true_eq] at z1
      exact z1.1
    have H1 := Lib.hid z1
    have H2 := Lib.hid z2
    have H3 := Lib.hid z3
    have HCD := Lib.hid hcd
    clear hcode hcd z1 z2 z3
    obtain ⟨i0, hi0, hz0, hz1, hz2⟩ := info_parts infoName
    obtain ⟨ip, ip0, ip1, ip2, ip3⟩ := info_parts infoPairing
    go_enter Try.func49, Try.ntmps49
    go_wp2_with fail
    generalize w.alloc (.cells #[.slice a ms.length cap] 30) = w1 at *
    refine (resultsCode_any ms rs a ra cap rcap w1 (HM.out.kept hb) (HRS.out.kept hb) hl hlr hf HFR.out).mono ?_
    rintro e w3 ⟨rfl, hd⟩
    rw [HCD.out]
    replace hb := hb.trans (hd.mono hb.size)
    replace c1 := cell_kept c1 hd
    clear hd
    have hw3 : w.heap.size ≤ w3.heap.size := hb.size
    have hd : Below w3.heap.size w3 (w3.alloc (.cells #[] 9)) := (Below.refl _ _).alloc (Nat.le_refl _) _
    have HO := Lib.hid (World.ownsRow_made (base := w3.heap.size) (e := 9) (size := 1) w3 #[] 0 (Nat.le_refl _) (by unfold maxLen; omega) rfl)
    replace hb := hb.trans (hd.mono hb.size)
    replace c1 := cell_kept c1 hd
    clear hd
    have hw3b : w3.heap.size < (w3.alloc (.cells #[] 9)).heap.size := by simp
    go_wp2_with fail
    generalize w3.alloc (.cells #[] 9) = w3b at *
    refine (standings_any ms rs a ra cap rcap _ (HM.out.kept hb) (HRS.out.kept hb) H1.out z12 z4 H2.out H3.out).mono ?_
    rintro e w4 ⟨a4, cap4, rfl, ho, hd⟩
    have hb4 := hb.trans (hd.mono hb.size)
    have SM := Lib.hid (HRS.out.kept hb4)
    have HOT := Lib.hid ho
    have HT4 := Lib.hid ho.lt
    have HO := Lib.hid (own_below HO.out hd)
    have HNM : Hid ((tableOf ms rs).map (·.name) = namesOf ms rs) := Lib.hid rfl
    have hTl : (tableOf ms rs).length ≤ 12 := by rw [tableOf_len]; exact z12
    generalize tableOf ms rs = T at *
    have hw43 := hd.size
    clear hd ho c1 HM hb SM
    go_wp2_with fail
    have hsz : w4.heap.size = w4.heap.size := rfl
    go_loopw [7, 26] (fun ov iv wr => ∃ (k g cp : Nat), k ≤ T.length ∧ iv = .int .i64 k ∧ ov = .slice (some ⟨g, 0, none⟩) k cp ∧ (g = w3.heap.size ∨ w4.heap.size ≤ g) ∧ Hid (w4.heap.size ≤ wr.heap.size) ∧ Hid (wr.ownsRow w3.heap.size 9 1 (.slice (some ⟨g, 0, none⟩) k cp) k ((topNames T k).flatMap Nm.enc)) ∧ Hid (wr.ownsRow w3b.heap.size 74 4 (.slice a4 T.length cap4) T.length (T.flatMap Std.enc)) ∧ Below w.heap.size w wr) (fun _ iv _ => T.length - (intOf iv).toNat)
    case atStart => exact ⟨0, _, 0, Nat.zero_le _, rfl, rfl, .inl rfl, Lib.hid (Nat.le_refl _), HO, HOT, hb4⟩
    case round =>
      clear HO HOT hb4 hsz
      obtain ⟨k, g, cp, hk, rfl, rfl, hgw, HWR, HO, HOT, hb⟩ := hrel
      by_cases hlt : k < T.length
      · obtain ⟨tb, tof, rfl, hcs⟩ := (own_slice Std.enc_len HOT.out rfl).open hlt
        obtain ⟨m0, m1, m2, m3⟩ := stdAt_of hcs hlt
        clear hcs
        have HSUCC := Lib.hid (topNames_succ hlt)
        have hx : Below wr.heap.size wr (wr.alloc (.cells #[.string T[k].name, .int .i64 T[k].points, .int .i64 T[k].spread, .int .i64 T[k].games] 74)) := (Below.refl _ _).alloc (Nat.le_refl _) _
        have n0 := cell_new0 wr #[.string T[k].name, .int .i64 T[k].points, .int .i64 T[k].spread, .int .i64 T[k].games] 74 (i := 0) (v := .string T[k].name) rfl
        have HO := Lib.hid (own_below HO.out hx)
        have HOT := Lib.hid (own_below HOT.out hx)
        have hb := hb.trans (hx.mono hb.size)
        go_upto_region 8 with fail
        have hwq : w4.heap.size ≤ (wr.alloc (.cells #[.string T[k].name, .int .i64 T[k].points, .int .i64 T[k].spread, .int .i64 T[k].games] 74)).heap.size := Nat.le_trans HWR.out hx.size
        clear hx m0 m1 m2 m3
        generalize wr.alloc (.cells #[.string T[k].name, .int .i64 T[k].points, .int .i64 T[k].spread, .int .i64 T[k].games] 74) = wq at *
        have hx : Below wq.heap.size wq (wq.alloc (.cells #[.string T[k].name] 9)) := (Below.refl _ _).alloc (Nat.le_refl _) _
        have KO := Lib.hid (own_alloc HO.out (.cells #[.string T[k].name] 9))
        have KT := Lib.hid (own_alloc HOT.out (.cells #[.string T[k].name] 9))
        have KN := Lib.hid (nm_new wq T[k].name 9)
        have HBX := Lib.hid (hb.trans (hx.mono hb.size))
        have HTB := HOT.out.lt tb
        go_wp2_with (at_builtin; go_must (refine wpList_append_lies _ rfl (.tmp 30) (.tmp 33) 80 rfl w3.heap.size 9 i0 (.string ⟨#[]⟩) 1 16 Try.underlying80 hi0 hz0 hz1 hz2 rfl (by decide) (.slice (some ⟨g, 0, none⟩) k cp) k ((topNames T k).flatMap Nm.enc) rfl KO.out ⟨wq.heap.size, 0, none⟩ 1 1 (Nm.enc T[k].name) rfl rfl KN.out (fun u hu => nm_oneCell [T[k].name] u (by simpa using hu)) (by decide) ?a1 ?a2 ?a3 _ rfl ?_))
        case a1 => unfold maxLen; omega
        case a2 => omega
        case a3 => have := HO.out.lt g rfl; simp; omega
        intro g6 cap6 w6 ho6 hg6 hat6 hlt6
        have hg0 := HO.out.lt g rfl
        have HO6 : Hid (w6.ownsRow w3.heap.size 9 1 (.slice (some ⟨g6, 0, none⟩) (k + 1) cap6) (k + 1) ((topNames T (k + 1)).flatMap Nm.enc)) := by
          rw [HSUCC.out]
          exact Lib.hid (own_as ho6 (by simp))
        have hgw6 : g6 = w3.heap.size ∨ w4.heap.size ≤ g6 := by
          rcases hat6 with h | h
          · have e : g = g6 := by simpa [Value.ownBlock] using h
            omega
          · (try simp at h); omega
        have hs6 := hg6.size
        have HW6 : Hid (w4.heap.size ≤ w6.heap.size) := Lib.hid (by (try simp at hs6); omega)
        have hb6 := HBX.out.grown hg6 HBX.out.size (fun q hq => by have e : g = q := by simpa [Value.ownBlock] using hq
                                                                   omega)
        have htb : tb ≠ g := by have := HT4.out tb rfl; omega
        have HT6 := Lib.hid (KT.out.kept hg6 (.inr (by simp [Value.ownBlock]; omega)))
        clear ho6 hg6 hat6 hlt6 hx HBX KO KT KN HO HOT hs6 hb hg0
        go_wp2
        go_roundw
        case rel => exact ⟨k + 1, g6, cap6, by omega, by go_num, rfl, hgw6, HW6, HO6, HT6, hb6⟩
        case measure => simp [intOf]; omega
      · obtain rfl : k = T.length := by omega
        clear hk hlt
        have hNl : T.length = (namesOf ms rs).length := by rw [← HNM.out]; simp
        have HCX := HO.out
        rw [topNames_all, HNM.out, hNl] at HCX
        rw [hNl] at hTl ⊢
        generalize namesOf ms rs = nm at *
        obtain ⟨hcp1, hcp2⟩ := own_cap HCX
        have HCN := Lib.hid (own_cellsAt Nm.enc_len HCX rfl)
        have HD := Lib.hid hb
        clear HCX HO hNl HNM hb HOT HT4
        cases hpar : ((nm.length : Int) % 2 == 0) with
        | true =>
          have hn2 : nm.length % 2 = 0 := by simp at hpar; omega
          have HY := Lib.hid (fun h => roundOf_even_yes (rs := rs) hn2 h)
          have HX := Lib.hid (fun h => roundOf_even_no (rs := rs) hn2 h)
          clear hn2
          go_wp2_with fail
          refine (paired_any rs ra rcap hlr 13 nm g 0 cp wr (by omega) (by omega) HCN.out hcp1 hcp2 (HRS.out.kept HD.out)).mono ?_
          rintro e w6 ⟨a6, cap6, rfl, hne, ho, hd6⟩
          have HB6 := Lib.hid (HD.out.trans (hd6.mono HD.out.size))
          have HO6 := Lib.hid (own_mono ho HD.out.size)
          have HRR := HR
          clear ho hd6 hne
          obtain ⟨P, hP⟩ : ∃ P, pairsN rs 13 nm = P := ⟨_, rfl⟩
          rw [hP] at HO6 HY HX ⊢
          clear hP
          obtain ⟨pl, pb⟩ := P
          cases pb with
          | false =>
            have HE := Lib.hid (HR.out.trans (HX.out rfl))
            clear HX HY HO6
            go_wp2
            go_ret2
            rw [HE.out]
            exact ⟨none, 0, rfl, by simpa using World.ownsRow_nil _ w.heap.size 82 2, HB6.out⟩
          | true =>
            have HE := Lib.hid (HR.out.trans (HY.out rfl))
            clear HX HY
            go_wp2
            go_ret2
            rw [HE.out]
            exact ⟨a6, cap6, rfl, HO6.out, HB6.out⟩
        | false =>
          have hn2 : ¬ nm.length % 2 = 0 := by simp at hpar; omega
          have HY := Lib.hid (fun p h => roundOf_odd_yes (rs := rs) (p := p) hn2 h)
          have HX := Lib.hid (fun h => roundOf_odd_no (rs := rs) hn2 h)
          clear hn2
          generalize wr = wn at *
          go_wp2_with fail
          go_loopw [12] (fun iv wr => ∃ (k : Nat) (z : Int), k ≤ nm.length ∧ iv = .int .i64 z ∧ z = (k : Int) - 1 ∧ Hid (oddFrom rs nm k = oddFrom rs nm nm.length) ∧ Below wn.heap.size wn wr) (fun iv _ => (intOf iv + 1).toNat)
          case atStart => exact ⟨nm.length, _, Nat.le_refl _, rfl, rfl, Lib.hid rfl, Below.refl _ _⟩
          case round =>
            obtain ⟨k, z, hk, rfl, hz, HF, hb⟩ := hrel
            by_cases hk0 : 0 < k
            · obtain ⟨j, rfl⟩ : ∃ j, k = j + 1 := ⟨k - 1, by omega⟩
              obtain rfl : z = (j : Int) := by omega
              have hj : j < nm.length := by omega
              clear hz hk0 hk
              have cs := cellsAt_kept HCN.out hb
              have qj := nm_at cs hj
              simp only [Nat.zero_add] at qj
              have CS := Lib.hid cs
              clear cs
              have SR := Lib.hid ((HRS.out.kept HD.out).kept hb)
              have hp0 := HavePlayed_any rs nm[j] ⟨#[]⟩ ra rcap wr SR.out (by omega)
              cases hp : played rs nm[j] ⟨#[]⟩ with
              | true =>
                rw [hp] at hp0
                have HF2 := Lib.hid ((oddFrom_played hj hp).symm.trans HF.out)
                have HP := Lib.hid hp0
                clear hp0 hp
                go_wp2_with fail
                refine HP.out.mono ?_
                rintro e wq ⟨rfl, hdq⟩
                have hb := hb.trans (hdq.mono hb.size)
                clear hdq
                go_wp2
                go_roundw
                case rel => exact ⟨j, _, by omega, rfl, rfl, HF2, hb⟩
                case measure => simp [intOf] <;> omega
              | false =>
                rw [hp] at hp0
                have HP := Lib.hid hp0
                have HPF := Lib.hid hp
                clear hp0 hp
                go_wp2_with fail
                refine HP.out.mono ?_
                rintro e wq ⟨rfl, hdq⟩
                have CS2 := Lib.hid (cellsAt_kept CS.out hdq)
                have HB2 := Lib.hid (hb.trans (hdq.mono hb.size))
                clear HP hdq CS hb qj SR
                go_wp2_with fail
                refine (cloneNames_any nm ⟨g, 0, none⟩ cp wq CS2.out.slice (by omega)).mono ?_
                rintro e w2 ⟨a2, cap2, rfl, ho, hd⟩
                obtain ⟨g2, rfl⟩ : ∃ g2, a2 = some ⟨g2, 0, none⟩ := by
                  obtain ⟨g2, cx, hv, _⟩ := ho.form (by omega)
                  simp only [Value.slice.injEq] at hv
                  exact ⟨g2, hv.1⟩
                have HB3 := Lib.hid (HB2.out.trans (hd.mono HB2.out.size))
                have CS3 := Lib.hid (cellsAt_kept CS2.out hd)
                have hgb := (ho.lt g2 rfl).1
                have hbb : g < wq.heap.size := block_lt (nm_at CS2.out hj)
                have hw2 := HB2.out.size
                clear hd CS2
                go_wp2_with fail
                refine (deleteName_any nm j _ g2 cap2 w2 ho hj).mono ?_
                rintro e wa ⟨rfl, ho2, hg⟩
                obtain ⟨hq1, hq2⟩ := own_cap ho
                have hdl := dropAt_len hj
                rw [← hdl] at ho2
                have C7 := Lib.hid (own_cellsAt Nm.enc_len ho2 rfl)
                have HB7 := Lib.hid (below_grown HB3.out HB3.out.size hg (by omega))
                have CS7 := Lib.hid (cellsAt_grown CS3.out hg (by simp; omega))
                have h1 : (dropAt nm j).length ≤ cap2 := by omega
                have h2 : cap2 ≤ maxLen := hq2
                have HDL := Lib.hid hdl
                clear ho ho2 hg hdl hq1 hq2 HB2 HB3 CS3
                go_wp2_with fail
                have hdl := HDL.out
                rw [← hdl]
                · refine (paired_any rs ra rcap hlr 13 (dropAt nm j) g2 0 cap2 wa (by omega) (by omega) C7.out h1 h2 ((HRS.out.kept HD.out).kept HB7.out)).mono ?_
                  rintro e w8 ⟨a8, cap8, rfl, hne, ho, hd8⟩
                  have hpl0 := pairsN_len rs 13 (dropAt nm j) (by omega)
                  have HY2 := Lib.hid (fun h => oddFrom_yes hj HPF.out h)
                  have HX2 := Lib.hid (fun h => oddFrom_no hj HPF.out h)
                  have HB8 := Lib.hid (HB7.out.trans (hd8.mono HB7.out.size))
                  have HS8 := Lib.hid hd8.size
                  have cs8 := cellsAt_kept CS7.out hd8
                  have q8 := nm_at cs8 hj
                  simp only [Nat.zero_add] at q8
                  have HO8 := Lib.hid ho
                  clear hd8 cs8 CS7 C7 ho h1 h2 hdl
                  obtain ⟨P, hP⟩ : ∃ P, pairsN rs 13 (dropAt nm j) = P := ⟨_, rfl⟩
                  rw [hP] at hne HO8 HY2 HX2 hpl0 ⊢
                  clear hP
                  obtain ⟨pl, pb⟩ := P
                  cases pb with
                  | false =>
                    have HF2 := Lib.hid ((HX2.out rfl).symm.trans HF.out)
                    clear HX2 HY2 HO8 hne
                    go_wp2
                    go_roundw
                    case rel => exact ⟨j, _, by omega, rfl, rfl, HF2, HB8.out⟩
                    case measure => simp [intOf] <;> omega
                  | true =>
                    have HE := Lib.hid (HR.out.trans (HY.out _ ((HY2.out rfl).symm.trans HF.out).symm))
                    clear HX2 HY2 hne
                    have KO := Lib.hid (own_alloc HO8.out (.cells #[.string nm[j], .string ⟨#[]⟩] 82))
                    have KN := Lib.hid (own_news (L1 := Pai.enc ⟨nm[j], ⟨#[]⟩⟩) (L2 := []) (own_as (pai_new w8 ⟨nm[j], ⟨#[]⟩⟩ 82 w8.heap.size (Nat.le_refl _)) (by simp)))
                    have hx : Below w8.heap.size w8 (w8.alloc (.cells #[.string nm[j], .string ⟨#[]⟩] 82)) := (Below.refl _ _).alloc (Nat.le_refl _) _
                    have HX8 := Lib.hid (HB8.out.trans (hx.mono HB8.out.size))
                    have hw8 : wa.heap.size ≤ w8.heap.size := HS8.out
                    have hpl1 : pl.length ≤ 13 := hpl0
                    clear hx
                    go_wp2_with (at_builtin; go_must (refine wpList_append_own _ rfl (.tmp 74) (.tmp 80) 77 rfl wa.heap.size 82 ip (.agg #[.string ⟨#[]⟩, .string ⟨#[]⟩]) 2 32 Try.underlying77 ip0 ip1 ip2 ip3 rfl (by decide) (.slice a8 pl.length cap8) pl.length (pl.flatMap Pai.enc) rfl KO.out ⟨w8.heap.size, 0, none⟩ 1 1 (Pai.enc ⟨nm[j], ⟨#[]⟩⟩) rfl rfl KN.out (pai_one _) ?a1 ?a2 ?a3 ?_))
                    case a1 => unfold maxLen; omega
                    case a2 => omega
                    case a3 => simp; omega
                    intro v9 w9 ho9 hg9 hn9
                    obtain ⟨g9, cap9, rfl, hB9, hl9⟩ := ho9.form (by omega)
                    have hbw9 := HX8.out.grown hg9 HX8.out.size (fun q hq => Nat.le_trans HB7.out.size (HO8.out.lt q hq).1)
                    have HB9 := Lib.hid (HD.out.trans (hbw9.mono HD.out.size))
                    have HO9 := Lib.hid (own_mono (own_as ho9 (flat_snoc Pai.enc pl ⟨nm[j], ⟨#[]⟩⟩)) (Nat.le_trans HD.out.size HB7.out.size))
                    have hlx : (pl ++ [(⟨nm[j], ⟨#[]⟩⟩ : Pai)]).length = pl.length + 1 := by simp
                    clear ho9 hg9 hn9 hbw9 KO KN
                    go_wp2
                    go_ret2
                    rw [HE.out]
                    refine ⟨some ⟨g9, 0, none⟩, cap9, ?_, ?_, HB9.out⟩
                    · show _ = Ending.returned (.tuple #[.slice (some ⟨g9, 0, none⟩) (pl ++ [(⟨nm[j], ⟨#[]⟩⟩ : Pai)]).length cap9, .int .i64 0])
                      rw [hlx]
                      rfl
                    · simp only [hlx]; exact HO9.out
            · obtain rfl : k = 0 := by omega
              have hz1 : ¬ (0 : Int) ≤ z := by omega
              have hz2 : z < 0 := by omega
              clear hz hk hk0
              have HE := Lib.hid (HR.out.trans (HX.out HF.out.symm))
              have HB6 := Lib.hid (HD.out.trans (hb.mono HD.out.size))
              clear hb
              go_wp2
              go_ret2
              rw [HE.out]
              exact ⟨none, 0, rfl, by simpa using World.ownsRow_nil _ w.heap.size 82 2, HB6.out⟩
end Go.Proofs.Ytpodkgfapbcmlaa
