/- Contracts: whether a club is valid (reference and program), where a member stands (program). -/
import Derived.Test.YtpodkgfapbcmlaaClub
namespace Go.Proofs.Ytpodkgfapbcmlaa
open Go.ChangeShapes Go.WideShapes Go.ChangeAt Go.RowKit Go.Sort

set_option maxHeartbeats 1000000 in
theorem l26Ok_any (ms : List Mem) (b o : Nat) (a : Option Addr) (cap : Nat) (w : World) (hp : w.cell? ⟨b, o, none⟩ = some (.slice a ms.length cap))
    (hm : SliceAt w 2 Mem.enc a ms) (hl : ms.length ≤ 9223372036854775807) (hf : MemsFit ms) :
    Calls Try.prog 59 #[.pointer (some ⟨b, o, none⟩)] w fun e w' => e = .returned (.bool (clubOk ms)) ∧ Drew w w' := by
  have HM := Lib.hid hm; clear hm
  have HF := Lib.hid hf; clear hf
  go_enter Try.func59, Try.ntmps59
  go_wp2
  go_loopw [3] (fun i wr => ∃ k : Nat, k ≤ ms.length ∧ i = .int .i64 k ∧ (List.range k).all (okAt ms) = true ∧ Drew w wr) (fun i _ => ms.length - (intOf i).toNat)
  case atStart => exact ⟨0, Nat.zero_le _, rfl, rfl, Drew.refl _⟩
  case round =>
    obtain ⟨k, hk, rfl, hall, hd⟩ := hrel
    have HA := Lib.hid hall; clear hall
    have hpr : wr.cell? ⟨b, o, none⟩ = some (.slice a ms.length cap) := (hd.cell _).trans hp
    clear hp
    by_cases hlt : k < ms.length
    · obtain ⟨mb, mo, rfl, hc⟩ := (HM.out.drew hd).open hlt
      have hc0 := hc.at0 hlt rfl
      have hc1 := hc k hlt 1 _ rfl
      have hfit := HF.out.at hlt
      by_cases h0 : k = 0
      · subst h0
        simp only [Nat.zero_mul, Nat.add_zero] at hc0 hc1
        have HO := Lib.hid (okAt_zero hlt)
        clear hc
        by_cases hv : memOk ms[0] = true
        · go_wp2
          go_quiet ((go_at_call 73; refine quiet_of_eq (l26Member_any mb mo ms[0] _ ?_ ?_ hfit) <;> simp [hc0, hc1]))
          go_wp2
          go_roundw
          case rel => exact ⟨1, by omega, rfl, by rw [range_all_succ, HO.out, hv]; rfl, hd.drewN _⟩
          case measure => simp [intOf]; omega
        · have hv' : memOk ms[0] = false := by simpa using hv
          clear hv
          go_wp2
          go_quiet ((go_at_call 73; refine quiet_of_eq (l26Member_any mb mo ms[0] _ ?_ ?_ hfit) <;> simp [hc0, hc1]))
          go_wp2
          go_ret
          exact ⟨ret_bool (clubOk_bad hlt (by rw [HO.out]; exact hv')).symm, hd.drewN _⟩
      · have HO := Lib.hid (okAt_succ hlt (by omega))
        have h0' : 0 < k := by omega
        have hcp := hc.at0 (k := k - 1) (by omega) rfl
        have hb1 : (1 : Int) ≤ (k : Int) := by omega
        have hb2 : (k : Int) - 1 < (ms.length : Int) := by omega
        clear hc
        by_cases hv : memOk ms[k] = true
        · by_cases hs : Op.bytesLess (ms[k - 1]'(by omega)).name.toList ms[k].name.toList = true
          · go_wp2
            go_quiet ((go_at_call 73; refine quiet_of_eq (l26Member_any mb (mo + k * 2) ms[k] _ ?_ ?_ hfit) <;> simp [hc0, hc1]))
            go_wp2
            go_roundw
            case rel => exact ⟨k + 1, by omega, by go_num, by rw [range_all_succ, HA.out, HO.out, hv, hs]; rfl, hd.drewN _⟩
            case measure => simp [intOf]; omega
          · have hs' : Op.bytesLess (ms[k - 1]'(by omega)).name.toList ms[k].name.toList = false := by simpa using hs
            clear hs
            go_wp2
            go_quiet ((go_at_call 73; refine quiet_of_eq (l26Member_any mb (mo + k * 2) ms[k] _ ?_ ?_ hfit) <;> simp [hc0, hc1]))
            go_wp2
            go_ret
            exact ⟨ret_bool (clubOk_bad hlt (by rw [HO.out, hv, hs']; rfl)).symm, hd.drewN _⟩
        · have hv' : memOk ms[k] = false := by simpa using hv
          clear hv
          go_wp2
          go_quiet ((go_at_call 73; refine quiet_of_eq (l26Member_any mb (mo + k * 2) ms[k] _ ?_ ?_ hfit) <;> simp [hc0, hc1]))
          go_wp2
          go_ret
          exact ⟨ret_bool (clubOk_bad hlt (by rw [HO.out, hv']; rfl)).symm, hd.drewN _⟩
    · have HE := Lib.hid (show (List.range ms.length).all (okAt ms) = true by rw [show ms.length = k from by omega]; exact HA.out)
      go_wp2
      go_ret
      exact ⟨ret_bool (by rw [clubOk_all HE.out, Bool.eq_iff_iff]; simp; omega), hd⟩

/-- 'w with some blocks behind it', as a name that the walk does not open. -/
theorem below_of_regrown {w : World} (p : Regrown) : Below w.heap.size w (grow (redrawn w p.d) p.os) := below_regrown w p.d p.os

set_option maxHeartbeats 1000000 in
theorem ValidClub_any (ms : List Mem) (a : Option Addr) (cap : Nat) (w : World) (hm : SliceAt w 2 Mem.enc a ms) (hl : ms.length ≤ 9223372036854775807) (hf : MemsFit ms) :
    Calls Try.prog 40 #[.agg #[.slice a ms.length cap]] w fun e w' => e = .returned (.bool (clubOk ms)) ∧ Below w.heap.size w w' := by
  have HM := Lib.hid hm; clear hm
  have HF := Lib.hid hf; clear hf
  by_cases h12 : 12 < ms.length
  · go_enter Try.func40, Try.ntmps40
    go_wp2
    go_ret
    exact ⟨ret_bool (clubOk_long (by omega)).symm, (Below.refl _ _).alloc (Nat.le_refl _) _⟩
  · go_enter Try.func40, Try.ntmps40
    go_wp2
    go_loopw [12] (fun i wr => ∃ k : Nat, k ≤ ms.length ∧ i = .int .i64 k ∧ (List.range k).all (okAt ms) = true ∧ Below w.heap.size w wr ∧ wr.cell? ⟨w.heap.size, 0, none⟩ = some (.slice a ms.length cap)) (fun i _ => ms.length - (intOf i).toNat)
    case atStart => exact ⟨0, Nat.zero_le _, rfl, rfl, (Below.refl _ _).alloc (Nat.le_refl _) _, cell_new0 _ _ _ rfl⟩
    case round =>
      obtain ⟨k, hk, rfl, hall, hb, hpr⟩ := hrel
      have HA := Lib.hid hall; clear hall
      by_cases hlt : k < ms.length
      · obtain ⟨mb, mo, rfl, hc⟩ := (HM.out.kept hb).open hlt
        have hc0 := hc.at0 hlt rfl
        have hc1 := hc k hlt 1 _ rfl
        have hfit := HF.out.at hlt
        have HO : Hid (okAt ms k = if h : 0 < k then (memOk ms[k] && Op.bytesLess (ms[k - 1]'(by omega)).name.toList ms[k].name.toList) else memOk ms[k]) := by
          split
          · exact okAt_succ hlt ‹_›
          · obtain rfl : k = 0 := by omega
            exact okAt_zero hlt
        have g0 := cell_regrown (cell_alloc hpr (.cells #[.string ms[k].name, .int .i64 ms[k].rating] 56))
        have g1 := cell_regrown (cell_new0 wr #[.string ms[k].name, .int .i64 ms[k].rating] 56 (i := 0) (v := .string ms[k].name) rfl)
        have g2 := cell_regrown (cell_new0 wr #[.string ms[k].name, .int .i64 ms[k].rating] 56 (i := 1) (v := .int .i64 ms[k].rating) rfl)
        have hb2 : Below w.heap.size w (wr.alloc (.cells #[.string ms[k].name, .int .i64 ms[k].rating] 56)) := hb.alloc hb.size _
        have hp2 := cell_alloc hpr (.cells #[.string ms[k].name, .int .i64 ms[k].rating] 56)
        have HB := Lib.hid hb2; clear hb2
        have HP := Lib.hid hp2; clear hp2
        by_cases h0 : 0 < k
        · have gp := cell_regrown (cell_alloc (hc.at0 (k := k - 1) (v := .string (ms[k - 1]'(by omega)).name) (by omega) rfl) (.cells #[.string ms[k].name, .int .i64 ms[k].rating] 56))
          clear hc
          have HO' : Hid (okAt ms k = (memOk ms[k] && Op.bytesLess (ms[k - 1]'(by omega)).name.toList ms[k].name.toList)) := by
            have := HO.out
            rw [dif_pos h0] at this
            exact this
          have hk1 : (1 : Int) ≤ (k : Int) := by omega
          have hk2 : (k : Int) - 1 < (ms.length : Int) := by omega
          by_cases hv : memOk ms[k] = true
          · by_cases hs : Op.bytesLess (ms[k - 1]'(by omega)).name.toList ms[k].name.toList = true
            · go_wp2
              refine wp_region_quiet_below (by kernel_rfl) (by kernel_rfl) ?_
              repeat (go_big_quiet_step ((go_at_call 74; exact Calls.regrown_of (validMember_any ms[k] _ hfit))))
              refine wpQuiet_nil ?_
              intro _ hw'
              obtain ⟨⟨dq, oq⟩, hw''⟩ := hw'
              subst hw''
              go_wp2
              go_roundw
              case rel => exact ⟨k + 1, by omega, by go_num, by rw [range_all_succ, HA.out, HO'.out, hv, hs]; rfl, HB.out.trans ((below_regrown _ _ _).mono HB.out.size), cell_kept HP.out (below_regrown _ _ _)⟩
              case measure => simp [intOf]; omega
            · have hs' : Op.bytesLess (ms[k - 1]'(by omega)).name.toList ms[k].name.toList = false := by simpa using hs
              clear hs
              go_wp2
              refine wp_region_quiet_below (by kernel_rfl) (by kernel_rfl) ?_
              repeat (go_big_quiet_step ((go_at_call 74; exact Calls.regrown_of (validMember_any ms[k] _ hfit))))
              refine wpQuiet_nil ?_
              intro _ hw'
              obtain ⟨⟨dq, oq⟩, hw''⟩ := hw'
              subst hw''
              go_wp2
              go_ret
              exact ⟨ret_bool (clubOk_bad hlt (by rw [HO'.out, hv, hs']; rfl)).symm, HB.out.trans ((below_regrown _ _ _).mono HB.out.size)⟩
          · have hv' : memOk ms[k] = false := by simpa using hv
            clear hv
            go_wp2
            refine wp_region_quiet_below (by kernel_rfl) (by kernel_rfl) ?_
            repeat (go_big_quiet_step ((go_at_call 74; exact Calls.regrown_of (validMember_any ms[k] _ hfit))))
            refine wpQuiet_nil ?_
            intro _ hw'
            obtain ⟨⟨dq, oq⟩, hw''⟩ := hw'
            subst hw''
            go_wp2
            go_ret
            exact ⟨ret_bool (clubOk_bad hlt (by rw [HO'.out, hv']; rfl)).symm, HB.out.trans ((below_regrown _ _ _).mono HB.out.size)⟩
        · have HO' : Hid (okAt ms k = memOk ms[k]) := by
            have := HO.out
            rw [dif_neg h0] at this
            exact this
          have hd0 : decide ((0 : Int) < (k : Int)) = false := by simp; omega
          clear hc
          by_cases hv : memOk ms[k] = true
          · go_wp2
            refine wp_region_quiet_below (by kernel_rfl) (by kernel_rfl) ?_
            repeat (go_big_quiet_step ((go_at_call 74; exact Calls.regrown_of (validMember_any ms[k] _ hfit))))
            refine wpQuiet_nil ?_
            intro _ hw'
            obtain ⟨⟨dq, oq⟩, hw''⟩ := hw'
            subst hw''
            go_wp2
            go_roundw
            case rel => exact ⟨k + 1, by omega, by go_num, by rw [range_all_succ, HA.out, HO'.out, hv]; rfl, HB.out.trans ((below_regrown _ _ _).mono HB.out.size), cell_kept HP.out (below_regrown _ _ _)⟩
            case measure => simp [intOf]; omega
          · have hv' : memOk ms[k] = false := by simpa using hv
            clear hv
            go_wp2
            refine wp_region_quiet_below (by kernel_rfl) (by kernel_rfl) ?_
            repeat (go_big_quiet_step ((go_at_call 74; exact Calls.regrown_of (validMember_any ms[k] _ hfit))))
            refine wpQuiet_nil ?_
            intro _ hw'
            obtain ⟨⟨dq, oq⟩, hw''⟩ := hw'
            subst hw''
            go_wp2
            go_ret
            exact ⟨ret_bool (clubOk_bad hlt (by rw [HO'.out]; exact hv')).symm, HB.out.trans ((below_regrown _ _ _).mono HB.out.size)⟩
      · have HE := Lib.hid (show (List.range ms.length).all (okAt ms) = true by rw [show ms.length = k from by omega]; exact HA.out)
        go_wp2
        go_ret
        exact ⟨ret_bool (by rw [clubOk_all HE.out]; simp <;> omega), hb⟩
end Go.Proofs.Ytpodkgfapbcmlaa
