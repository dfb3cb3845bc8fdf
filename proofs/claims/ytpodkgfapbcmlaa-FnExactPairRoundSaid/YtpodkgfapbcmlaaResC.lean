/- Contract: the program's code of a club and results. -/
import Derived.Test.YtpodkgfapbcmlaaResB
namespace Go.Proofs.Ytpodkgfapbcmlaa
open Go.ChangeShapes Go.WideShapes Go.ChangeAt Go.RowKit Go.Sort

set_option maxHeartbeats 4000000 in
theorem resultsCode_any (ms : List Mem) (rs : List Res) (a ra : Option Addr) (cap rcap : Nat) (w : World) (hm : SliceAt w 2 Mem.enc a ms) (hr : SliceAt w 4 Res.enc ra rs)
    (hl : ms.length ≤ 1048576) (hlr : rs.length ≤ 1048576) (hf : MemsFit ms) (hfr : ResFit rs) :
    Calls Try.prog 66 #[.agg #[.slice a ms.length cap], .slice ra rs.length rcap] w fun e w' => e = .returned (.int .i64 (codeOf ms rs)) ∧ Below w.heap.size w w' := by
  have HM := Lib.hid hm; clear hm
  have HRS := Lib.hid hr; clear hr
  have HFR := Lib.hid hfr; clear hfr
  have hb0 : Below w.heap.size w (w.alloc (.cells #[.slice a ms.length cap] 30)) := (Below.refl _ _).alloc (Nat.le_refl _) _
  have hc0 := cell_new0 w #[.slice a ms.length cap] 30 (i := 0) (v := .slice a ms.length cap) rfl
  cases hc : clubOk ms with
  | false =>
    have HE : Hid (codeOf ms rs = 1) := by unfold Hid codeOf; rw [if_pos hc]
    have HC := Lib.hid hc; clear hc
    go_enter Try.func66, Try.ntmps66
    go_wp2_with fail
    refine (ValidClub_any ms a cap _ (HM.out.kept hb0) (by omega) hf).mono ?_
    rintro e w1 ⟨rfl, hd⟩
    rw [HC.out]
    go_wp2
    go_ret
    exact ⟨ret_int HE.out.symm, hb0.trans (hd.mono hb0.size)⟩
  | true =>
    have HC := Lib.hid hc; clear hc
    go_enter Try.func66, Try.ntmps66
    go_wp2_with fail
    refine (ValidClub_any ms a cap _ (HM.out.kept hb0) (by omega) hf).mono ?_
    rintro e w1 ⟨rfl, hd1⟩
    rw [HC.out]
    have hb1 := hb0.trans (hd1.mono hb0.size)
    have hc1 := cell_kept hc0 hd1
    clear hc0 hd1 hb0
    go_wp2_with fail
    refine (containsBad_any rs ra rcap _ (HRS.out.kept hb1) (by omega) HFR.out).mono ?_
    rintro e w2 ⟨rfl, hd2⟩
    have hb2 := hb1.trans (hd2.mono hb1.size)
    have hc2 := cell_kept hc1 hd2
    clear hc1 hd2 hb1
    cases hall : rs.all resOk with
    | false =>
      have HE : Hid (codeOf ms rs = 1) := by unfold Hid codeOf; rw [if_neg (by rw [HC.out]; simp), if_pos hall]
      clear hall
      go_wp2
      go_ret
      exact ⟨ret_int HE.out.symm, hb2⟩
    | true =>
      have HOK := Lib.hid hall
      clear hall
      go_wp2
      go_loopw [16] (fun i wr => ∃ k : Nat, k ≤ rs.length ∧ i = .int .i64 k ∧ (rs.take k).all (known ms) = true ∧ Below w.heap.size w wr ∧ wr.cell? ⟨w.heap.size, 0, none⟩ = some (.slice a ms.length cap)) (fun i _ => rs.length - (intOf i).toNat)
      case atStart => exact ⟨0, Nat.zero_le _, rfl, rfl, hb2, hc2⟩
      case round =>
        obtain ⟨j, hj, rfl, hall, hb, hcr⟩ := hrel
        have HA := Lib.hid hall; clear hall hc2 hb2
        by_cases hjt : j < rs.length
        · obtain ⟨xb, xo, rfl, hcs⟩ := (HRS.out.kept hb).open hjt
          obtain ⟨c0, c1, c2, c3⟩ := resAt_of hcs hjt
          clear hcs
          have hx : Below wr.heap.size wr (wr.alloc (.cells #[.string rs[j].a, .string rs[j].b, .int .i64 rs[j].sa, .int .i64 rs[j].sb] 39)) := (Below.refl _ _).alloc (Nat.le_refl _) _
          have hb3 := hb.trans (hx.mono hb.size)
          have hn0 := cell_new0 wr #[.string rs[j].a, .string rs[j].b, .int .i64 rs[j].sa, .int .i64 rs[j].sb] 39 (i := 0) (v := .string rs[j].a) rfl
          have hn1 := cell_new0 wr #[.string rs[j].a, .string rs[j].b, .int .i64 rs[j].sa, .int .i64 rs[j].sb] 39 (i := 1) (v := .string rs[j].b) rfl
          have hcr3 := cell_kept hcr hx
          have HM3 := Lib.hid (HM.out.kept hb3)
          go_wp2_with fail
          generalize wr.alloc (.cells #[.string rs[j].a, .string rs[j].b, .int .i64 rs[j].sa, .int .i64 rs[j].sb] 39) = w3 at *
          refine (member_any ms rs[j].a a cap _ HM3.out (by omega)).mono ?_
          rintro e w4 ⟨rfl, hd4⟩
          have hb4 := hb3.trans (hd4.mono hb3.size)
          have hcr4 := cell_kept hcr3 hd4
          have hn4 := cell_kept hn1 hd4
          have HM4 := Lib.hid (HM3.out.kept hd4)
          clear hx hb hcr hn0 hn1 hcr3 HM3 hd4 hb3 c0 c1 c2 c3
          by_cases hfa : findMem rs[j].a ms < 0
          · have HE : Hid (codeOf ms rs = 3) := by
              unfold Hid codeOf
              rw [if_neg (by rw [HC.out]; simp), if_neg (by rw [HOK.out]; simp), if_pos (all_bad hjt (by unfold known; simp; omega))]
            go_wp2
            go_ret
            exact ⟨ret_int HE.out.symm, hb4⟩
          · cases hbe : rs[j].b.toList.isEmpty with
            | true =>
              have hbn : rs[j].b.toList = [] := List.isEmpty_iff.1 hbe
              have hne : (rs[j].b.toList != []) = false := by simp [hbn]
              have HK : Hid (known ms rs[j] = true) := by
                unfold Hid known
                rw [hbe]
                simp
                omega
              go_wp2
              go_roundw
              case rel => exact ⟨j + 1, by omega, by go_num, by rw [all_take_succ hjt, HA.out, HK.out]; rfl, hb4, hcr4⟩
              case measure => simp [intOf]; omega
            | false =>
              have hbn : ¬ rs[j].b.toList = [] := fun e => by rw [e] at hbe; simp at hbe
              have hne : (rs[j].b.toList != []) = true := by simp [hbn]
              go_wp2_with fail
              refine (member_any ms rs[j].b a cap _ HM4.out (by omega)).mono ?_
              rintro e w5 ⟨rfl, hd5⟩
              have hb5 := hb4.trans (hd5.mono hb4.size)
              have hcr5 := cell_kept hcr4 hd5
              clear hd5 hcr4 hb4
              by_cases hfb : findMem rs[j].b ms < 0
              · have HE : Hid (codeOf ms rs = 3) := by
                  unfold Hid codeOf
                  rw [if_neg (by rw [HC.out]; simp), if_neg (by rw [HOK.out]; simp), if_pos (all_bad hjt (by unfold known; rw [hbe]; simp; omega))]
                go_wp2
                go_ret
                exact ⟨ret_int HE.out.symm, hb5⟩
              · have HK : Hid (known ms rs[j] = true) := by
                  unfold Hid known
                  rw [hbe]
                  simp
                  omega
                go_wp2
                go_roundw
                case rel => exact ⟨j + 1, by omega, by go_num, by rw [all_take_succ hjt, HA.out, HK.out]; rfl, hb5, hcr5⟩
                case measure => simp [intOf]; omega
        · have HKN := Lib.hid (all_done hjt HA.out)
          by_cases h200 : 200 < rs.length
          · have HE : Hid (codeOf ms rs = 5) := by unfold Hid codeOf; rw [if_neg (by rw [HC.out]; simp), if_neg (by rw [HOK.out]; simp), if_neg (by rw [HKN.out]; simp), if_pos h200]
            go_wp2
            go_ret
            exact ⟨ret_int HE.out.symm, hb⟩
          · have HE : Hid (codeOf ms rs = 0) := by unfold Hid codeOf; rw [if_neg (by rw [HC.out]; simp), if_neg (by rw [HOK.out]; simp), if_neg (by rw [HKN.out]; simp), if_neg h200]
            go_wp2
            go_ret
            exact ⟨ret_int HE.out.symm, hb⟩
end Go.Proofs.Ytpodkgfapbcmlaa
