/- Contracts: the pairs of a row of names (program). -/
import Derived.Test.YtpodkgfapbcmlaaPrB
namespace Go.Proofs.Ytpodkgfapbcmlaa
open Go.ChangeShapes Go.WideShapes Go.ChangeAt Go.RowKit Go.Sort

set_option maxRecDepth 100000 in
set_option maxHeartbeats 4000000 in
theorem paired_any (rs : List Res) (ra : Option Addr) (rcap : Nat) (hlr : rs.length ≤ 1048576) (f : Nat) : ∀ (xs : List ByteArray) (b off cap : Nat) (w : World), f ≤ 13 → xs.length ≤ 2 * f + 1 → CellsAt w 1 Nm.enc b off xs → xs.length ≤ cap → cap ≤ maxLen → SliceAt w 4 Res.enc ra rs →
    Calls Try.prog 93 #[.slice ra rs.length rcap, .slice (some ⟨b, off, none⟩) xs.length cap] w (PairPost w (pairsN rs f xs)) := by
  induction f using Nat.strongRecOn with
  | ind f IH =>
    intro xs b off cap w hf hn hc hcap hcm hr
    obtain ⟨i0, hi0, hz0, hz1, hz2⟩ := info_parts infoPairing
    have HRS := Lib.hid hr; clear hr
    have HC := Lib.hid hc; clear hc
    by_cases h0 : xs.length = 0
    · obtain rfl := List.eq_nil_of_length_eq_zero h0
      have HN := Lib.hid (pairsN_nil rs f)
      have HO := Lib.hid (World.ownsRow_made (base := w.heap.size) (e := 82) (size := 2) w #[] 0 (Nat.le_refl _) (by unfold maxLen; omega) rfl)
      have hb : Below w.heap.size w (w.alloc (.cells #[] 82)) := (Below.refl _ _).alloc (Nat.le_refl _) _
      go_enter Try.func93, Try.ntmps93
      go_wp2
      go_ret2
      rw [HN.out]
      exact ⟨_, _, rfl, by simp, HO.out, hb⟩
    · have h0' : 0 < xs.length := by omega
      have HT0 := Lib.hid (pairsN_try (rs := rs) h0' hn)
      clear h0
      unfold maxLen at hcm
      have hzz : ((xs.length : Int) == 0) = false := by simpa using (by omega : ¬ (xs.length : Int) = 0)
      go_enter Try.func93, Try.ntmps93
      go_wp2
      clear hzz
      go_loopw [6] (fun iv wr => ∃ k : Nat, 0 < k ∧ k ≤ xs.length ∧ iv = .int .i64 k ∧ Hid (tryFrom rs (pairsN rs (f - 1)) xs (xs.length - k) k = pairsN rs f xs) ∧ Below w.heap.size w wr) (fun iv _ => xs.length - (intOf iv).toNat)
      case atStart => exact ⟨1, by omega, h0', by first | rfl | go_num, Lib.hid HT0.out.symm, Below.refl _ _⟩
      case round =>
        obtain ⟨k, hk0, hk, rfl, HT, hb⟩ := hrel
        by_cases hlt : k < xs.length
        · have cs := cellsAt_kept HC.out hb
          have q0 := nm_at cs h0'
          have qk := nm_at cs hlt
          simp only [Nat.add_zero] at q0
          have CS := Lib.hid cs
          clear cs
          have hp0 := fun (wx : World) (h : SliceAt wx 4 Res.enc ra rs) => HavePlayed_any rs (xs[0]'h0') xs[k] ra rcap wx h (by omega)
          cases hp : played rs (xs[0]'h0') xs[k] with
          | true =>
            rw [hp] at hp0
            have HP := Lib.hid hp0
            have HT2 := Lib.hid ((tryFrom_played (rec := pairsN rs (f - 1)) hlt hp).symm.trans HT.out)
            clear hp0 hp
            have g0 := cell_regrown q0
            have gk := cell_regrown qk
            go_wp2
            refine wp_region_quiet_below (by kernel_rfl) (by kernel_rfl) ?_
            repeat (go_big_quiet_step ((go_at_call 51; exact Calls.regrown_of (HP.out _ ((HRS.out.kept hb).kept (below_regrown _ _ _))))))
            refine wpQuiet_nil ?_
            intro _ hw'
            obtain ⟨⟨dq, oq⟩, hw''⟩ := hw'
            subst hw''
            have hd := below_regrown wr dq oq
            have cs := cellsAt_kept CS.out hd
            have HB2 := Lib.hid (hb.trans (hd.mono hb.size))
            clear hd
            clear g0 gk
            generalize grow (redrawn wr dq) oq = wa at *
            go_wp2
            go_roundw
            case rel => exact ⟨k + 1, by omega, by omega, by go_num, HT2, HB2.out⟩
            case measure => simp [intOf]; omega
          | false =>
            rw [hp] at hp0
            have HP := Lib.hid hp0
            have HPF := Lib.hid hp
            clear hp0 hp
            have g0 := cell_regrown q0
            have gk := cell_regrown qk
            go_wp2
            refine wp_region_quiet_below (by kernel_rfl) (by kernel_rfl) ?_
            repeat (go_big_quiet_step ((go_at_call 51; exact Calls.regrown_of (HP.out _ ((HRS.out.kept hb).kept (below_regrown _ _ _))))))
            refine wpQuiet_nil ?_
            intro _ hw'
            obtain ⟨⟨dq, oq⟩, hw''⟩ := hw'
            subst hw''
            have hd := below_regrown wr dq oq
            have cs := cellsAt_kept CS.out hd
            have HB2 := Lib.hid (hb.trans (hd.mono hb.size))
            clear hd
            clear g0 gk
            generalize grow (redrawn wr dq) oq = wa at *
            have CS2 := Lib.hid cs
            clear cs q0 qk CS
            go_wp2_with fail
            refine (cloneNames_any xs ⟨b, off, none⟩ cap wa CS2.out.slice (by omega)).mono ?_
            rintro e w2 ⟨a2, cap2, rfl, ho, hd⟩
            obtain ⟨g2, rfl⟩ : ∃ g2, a2 = some ⟨g2, 0, none⟩ := by
              obtain ⟨g2, cx, hv, _⟩ := ho.form h0'
              simp only [Value.slice.injEq] at hv
              exact ⟨g2, hv.1⟩
            have HB3 := Lib.hid (HB2.out.trans (hd.mono HB2.out.size))
            have CS3 := Lib.hid (cellsAt_kept CS2.out hd)
            have hgb := (ho.lt g2 rfl).1
            have hbb : b < wa.heap.size := block_lt (nm_at CS2.out hlt)
            have hw2 := HB2.out.size
            clear hd CS2
            go_wp2_with fail
            refine (deleteName_any xs k _ g2 cap2 w2 ho hlt).mono ?_
            rintro e w2b ⟨rfl, ho2, hg⟩
            obtain ⟨hq1, hq2⟩ := own_cap ho
            have hdl := dropAt_len hlt
            have ho2' := ho2
            rw [← hdl] at ho2'
            have cw := nm_drop (own_cellsAt Nm.enc_len ho2' rfl) 1
            rw [dropAt_tail hk0 hlt] at cw
            have CW := Lib.hid cw
            have hwl := without_len hlt hk0
            have HB3 := Lib.hid (below_grown HB3.out HB3.out.size hg (by omega))
            have CS3 := Lib.hid (cellsAt_grown CS3.out hg (by simp; omega))
            clear ho ho2 ho2' cw hg
            have hs1 : (1 : Int) ≤ ((xs.length - 1 : Nat) : Int) := by omega
            have hs2 : ¬ cap2 = 1 := by omega
            have hs3 : (without xs k).length ≤ cap2 - 1 := by omega
            have hs4 : cap2 - 1 ≤ maxLen := by omega
            go_wp2_with fail
            first | rw [show xs.length - 1 - 1 = (without xs k).length by omega] | rw [show xs.length - 2 = (without xs k).length by omega]
            refine (IH (f - 1) (by omega) (without xs k) g2 1 (cap2 - 1) _ (by omega) (by omega) CW.out hs3 hs4 (HRS.out.kept HB3.out)).mono ?_
            clear CW hq1 hq2 hdl hwl hs1 hs2 hs3 hs4
            rintro e w3 ⟨a3, cap3, rfl, hne, ho, hd⟩
            have HY := Lib.hid (fun h => tryFrom_yes (rec := pairsN rs (f - 1)) hlt HPF.out h)
            have HX := Lib.hid (fun h => tryFrom_no (rec := pairsN rs (f - 1)) hlt HPF.out h)
            have hpl0 := pairsN_len rs (f - 1) (without xs k) (by rw [without_len hlt hk0]; omega)
            obtain ⟨P, hP⟩ : ∃ P, pairsN rs (f - 1) (without xs k) = P := ⟨_, rfl⟩
            rw [hP] at hne ho HY HX hpl0 ⊢
            have HPL := Lib.hid (show P.1.length ≤ 13 by omega)
            clear hpl0
            clear hP
            obtain ⟨pl, pb⟩ := P
            cases pb with
            | false =>
              have HX2 := Lib.hid ((HX.out rfl).symm.trans HT.out)
              clear HX HY ho hne
              have HB4 := Lib.hid (HB3.out.trans (hd.mono HB3.out.size))
              clear hd
              go_wp2
              go_roundw
              case rel => exact ⟨k + 1, by omega, by omega, by go_num, HX2, HB4.out⟩
              case measure => simp [intOf]; omega
            | true =>
              obtain ⟨g3, rfl⟩ := own_at ho (hne rfl)
              have HE := Lib.hid ((HY.out rfl).symm.trans HT.out)
              clear HX HY hne HT
              have cs4 := cellsAt_kept CS3.out hd
              have q0 := nm_at cs4 h0'
              have qk := nm_at cs4 hlt
              simp only [Nat.add_zero] at q0
              have HB4 := Lib.hid (HB3.out.trans (hd.mono HB3.out.size))
              have HO := Lib.hid ho
              clear hd cs4 CS3 ho
              go_wp2_with fail
              have HN := Lib.hid (own_news (L1 := pl.flatMap Pai.enc) (L2 := []) (own_as HO.out (by simp)))
              have hpl := HPL.out
              have hbw : b < w3.heap.size := block_lt q0
              obtain ⟨k_q0, k_qk⟩ := And.intro q0 qk
              have hk : Below w3.heap.size w3 w3 := Below.refl _ _
              go_region_held3 (fun w' => w'.cell? ⟨b, off, none⟩ = some (.string (xs[0]'h0')) ∧ w'.cell? ⟨b, off + k, none⟩ = some (.string xs[k]))
                (first | exact ⟨k_q0, k_qk⟩ | exact ⟨cell_alloc k_q0 _, cell_alloc k_qk _⟩)
                (((first | refine step_fresh 2 rfl ?_ | refine step_fresh_drew 2 rfl ?_); intro wz hxz how; refine step_append_own ?_ (.tmp 51) (.tmp 52) 77 ?_ w3.heap.size 82 i0 (.agg #[.string ⟨#[]⟩, .string ⟨#[]⟩]) 2 32 Try.underlying77 hi0 hz0 hz1 hz2 rfl (by decide) (.slice (some ⟨w3.heap.size, 0, none⟩) 1 1) 1 (Pai.enc ⟨xs[0]'h0', xs[k]⟩) ?_ how ⟨g3, 0, none⟩ pl.length cap3 (pl.flatMap Pai.enc) ?_ (flatMap_len Pai.enc_len pl) (fun j u hj => cell_kept (HN.out j u hj) hxz) (pai_ones pl) ?_ ?_ hxz.size ?_; (all_goals (first | rfl | (unfold maxLen; omega) | omega | skip)); intro v5 w5 ho5 hg5 hn5; obtain ⟨g5, cap5, rfl, hB5, hlt5⟩ := ho5.form (by omega); replace k_q0 := hg5.cell (cell_kept k_q0 hxz) (by simp [Value.ownBlock]; omega); replace k_qk := hg5.cell (cell_kept k_qk hxz) (by simp [Value.ownBlock]; omega); replace hk := below_grown hxz hxz.size hg5 (Nat.le_refl _); have H5 := Lib.hid (own_as ho5 (L' := (⟨xs[0]'h0', xs[k]⟩ :: pl : List Pai).flatMap Pai.enc) (by simp)); clear ho5 hg5 hn5 hxz how))
              all_goals
                go_wp2
                go_ret2
                rw [← HE.out, Nat.add_comm 1 pl.length]
                have h5 := own_mono H5.out HB4.out.size
                rw [Nat.add_comm 1 pl.length] at h5
                exact ⟨_, _, rfl, by simp, h5, HB4.out.trans (hk.mono HB4.out.size)⟩
        · have HE := Lib.hid ((tryFrom_end (rs := rs) (rec := pairsN rs (f - 1)) hlt).symm.trans HT.out)
          go_wp2
          go_ret2
          rw [← HE.out]
          exact ⟨none, 0, rfl, by simp, by simpa using World.ownsRow_nil _ w.heap.size 82 2, hb⟩
end Go.Proofs.Ytpodkgfapbcmlaa
