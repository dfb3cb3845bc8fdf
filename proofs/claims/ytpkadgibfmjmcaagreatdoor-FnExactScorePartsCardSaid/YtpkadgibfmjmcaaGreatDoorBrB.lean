/- Contracts: the tests on boards, both sides; the program's squares. No condition but that a length fits an int. -/
import Derived.Test.YtpkadgibfmjmcaaGreatDoorBrA
import Derived.Test.YtpkadgibfmjmcaaGreatDoorBox
namespace Go.Proofs.YtpkadgibfmjmcaaGreatDoor
open Go.ChangeShapes Go.WideShapes Go.ChangeAt Go.RowKit Go.Sort

/-! ### Plain -/
theorem Brd.ok_size {b : Brd} (h : withinB b.size 5 15 = false) : b.ok = false := by unfold Brd.ok; rw [h]; rfl
theorem Brd.ok_prem {b : Brd} (h : ¬ (b.premium.size : Int) = b.size * b.size) : b.ok = false := by unfold Brd.ok; rw [decide_eq_false h]; simp
theorem Brd.ok_cells {b : Brd} (h : ¬ b.cells.size = b.premium.size) : b.ok = false := by unfold Brd.ok; rw [decide_eq_false h]; simp
theorem Brd.ok_eq {b : Brd} (h1 : withinB b.size 5 15 = true) (h2 : (b.premium.size : Int) = b.size * b.size) (h3 : b.cells.size = b.premium.size) : b.ok = (allP b.premium && allC b.cells) := by
  unfold Brd.ok; rw [h1, decide_eq_true h2, decide_eq_true h3]; rfl
theorem withinN {x : Int} (h : withinB x 5 15 = true) : ∃ n : Nat, x = n ∧ 5 ≤ n ∧ n ≤ 15 := by
  have := within_iff.1 h
  exact ⟨x.toNat, by omega, by omega, by omega⟩
theorem all_get {s : ByteArray} {p : UInt8 → Bool} {k : Nat} (h : k < s.size) (hp : p s[k] = false) : s.data.toList.all p = false :=
  all_false_of (k := k) (by simpa using h) hp
theorem all_step {s : ByteArray} {p : UInt8 → Bool} {k : Nat} (h : k < s.size) (h1 : (s.data.toList.take k).all p = true) (h2 : p s[k] = true) : (s.data.toList.take (k + 1)).all p = true := by
  rw [take_all_succ (by simpa using h), h1, Bool.true_and]; exact h2
theorem all_end {s : ByteArray} {p : UInt8 → Bool} {k : Nat} (hk : s.size ≤ k) (h : (s.data.toList.take k).all p = true) : s.data.toList.all p = true := by
  rwa [List.take_of_length_le (by simpa using hk)] at h
/-- the tests up to a place -/
def upTo (p : Int → Bool) (s : ByteArray) (k : Nat) : Prop := (s.data.toList.take k).all (fun c => p c.toNat) = true
theorem upTo.zero (p : Int → Bool) (s : ByteArray) : upTo p s 0 := rfl

set_option maxHeartbeats 2000000 in
theorem allCell_any (s : ByteArray) (w : World) (hs : s.size ≤ 9223372036854775807) : Calls Tryz.prog 126 #[.string s, .func (.func 128) #[] #[]] w fun e w' => e = .returned (.bool (allC s)) ∧ w = w' := by
  show Calls _ _ _ _ fun e w' => e = .returned (.bool (s.data.toList.all (fun c => cellB c.toNat))) ∧ w = w'
  obtain ⟨all, hall⟩ : ∃ all, all = s.data.toList.all (fun c => cellB c.toNat) := ⟨_, rfl⟩
  rw [← hall]
  have HL := Lib.hid hall
  clear hall
  go_enter Tryz.func126, Tryz.ntmps126
  go_wp2
  go_loop [5] (fun i => ∃ k : Nat, k ≤ s.size ∧ i = .int .i64 k ∧ Hid (upTo cellB s k)) (fun i => s.size - (intOf i).toNat)
  case atStart => exact ⟨0, Nat.zero_le _, rfl, Lib.hid (upTo.zero _ _)⟩
  case round =>
    obtain ⟨k, hk, rfl, HA⟩ := hrel
    by_cases hlt : k < s.size
    · cases hsm : cellB s[k].toNat with
      | false =>
        have HN : Hid (all = false) := Lib.hid (by rw [HL.out]; exact all_get hlt hsm)
        go_wp2_with fail
        refine (cellOk_any _ _).mono ?_
        rintro e w' ⟨rfl, rfl⟩
        rw [hsm]
        clear hsm
        go_wp2
        go_ret
        exact ⟨ret_bool HN.out.symm, rfl⟩
      | true =>
        have HN : Hid (upTo cellB s (k + 1)) := Lib.hid (all_step hlt HA.out hsm)
        go_wp2_with fail
        refine (cellOk_any _ _).mono ?_
        rintro e w' ⟨rfl, rfl⟩
        rw [hsm]
        clear hsm
        go_wp2
        go_round
        case rel => exact ⟨k + 1, by omega, by go_num, HN⟩
        case measure => simp [intOf]; omega
    · have HN : Hid (all = true) := Lib.hid (by rw [HL.out]; exact all_end (k := k) (by omega) HA.out)
      go_wp2
      go_ret
      exact ⟨ret_bool HN.out.symm, rfl⟩
set_option maxRecDepth 100000 in
set_option maxHeartbeats 4000000 in
theorem l11Ok_any (b : Brd) (g o : Nat) (w : World) (hg : BAt w g o b) (hf : b.fit) :
    Calls Tryz.prog 53 #[.pointer (some ⟨g, o, none⟩)] w fun e w' => e = .returned (.bool b.ok) ∧ Drew w w' := by
  have HF := Lib.hid hf
  obtain ⟨hf1, hf2⟩ := hf
  have HG := Lib.hid hg
  obtain ⟨g0, g1, g2⟩ := hg
  have HI : Hid (∀ W, Calls Tryz.prog 114 #[.int .i64 b.size] W fun e w' => e = .returned (.bool (withinB b.size 5 15)) ∧ W = w') := Lib.hid (fun W => l11Size_any b.size W)
  cases h1 : withinB b.size 5 15 with
  | false =>
    have HN := Lib.hid (Brd.ok_size h1)
    have HI1 : Hid (∀ W, Calls Tryz.prog 114 #[.int .i64 b.size] W fun e w' => e = .returned (.bool false) ∧ W = w') := Lib.hid (fun W => by have := HI.out W; rwa [h1] at this)
    clear h1
    go_enter Tryz.func53, Tryz.ntmps53
    go_wp2_with fail
    go_quiet ((go_at_call 114; exact quiet_of_eq (HI1.out _)))
    go_wp2
    go_ret
    exact ⟨ret_bool HN.out.symm, ⟨_, rfl⟩⟩
  | true =>
    have HN1 := Lib.hid (Brd.ok_prem (b := b))
    have HN2 := Lib.hid (Brd.ok_cells (b := b))
    have HY := Lib.hid (Brd.ok_eq (b := b) h1)
    obtain ⟨n, hn, n5, n15⟩ := withinN h1
    have HI1 : Hid (∀ W, Calls Tryz.prog 114 #[.int .i64 (n : Int)] W fun e w' => e = .returned (.bool true) ∧ W = w') := Lib.hid (fun W => by have := HI.out W; rwa [h1, hn] at this)
    have HSZ := Lib.hid hn
    rw [hn] at g0
    obtain ⟨q, hq⟩ : ∃ q, q = n * n := ⟨_, rfl⟩
    have hqi : (n : Int) * (n : Int) = (q : Int) := by rw [hq]; push_cast; rfl
    have hq3 : q ≤ 225 := by rw [hq]; exact sq_mono n15
    have HQ := Lib.hid hqi
    clear h1 HI hn hq
    by_cases h3 : b.premium.size = q
    · have h4 : ((b.premium.size : Int) != (q : Int)) = false := by rw [h3]; simp
      by_cases h5 : b.cells.size = q
      · have h6 : ((b.cells.size : Int) != (q : Int)) = false := by rw [h5]; simp
        have HN : Hid (b.ok = (allP b.premium && allC b.cells)) := Lib.hid (HY.out (by rw [HSZ.out, HQ.out, h3]) (by omega))
        have H3 := Lib.hid h3
        have H5 := Lib.hid h5
        clear HN1 HN2 HY h3 h5
        go_enter Tryz.func53, Tryz.ntmps53
        go_wp2_with fail
        go_quiet ((go_at_call 114; exact quiet_of_eq (HI1.out _)))
        replace HG := Lib.hid (HG.out.drew ⟨nq, rfl⟩)
        clear g0 g1 g2 HI1 h4 h6 hqi
        have HD : Hid (Drew w (w.drewN nq)) := Lib.hid ⟨_, rfl⟩
        generalize w.drewN nq = w1 at *
        obtain ⟨g0, g1, g2⟩ := HG.out
        clear g0
        go_wp2
        go_loopw [3] (fun i wr => ∃ k : Nat, k ≤ b.cells.size ∧ i = .int .i64 k ∧ Hid (upTo cellB b.cells k) ∧ Hid (upTo premB b.premium k) ∧ w1 = wr) (fun i _ => b.cells.size - (intOf i).toNat)
        case atStart => exact ⟨0, Nat.zero_le _, rfl, Lib.hid (upTo.zero _ _), Lib.hid (upTo.zero _ _), rfl⟩
        case round =>
          obtain ⟨k, hk, rfl, HA, HB, rfl⟩ := hrel
          by_cases hlt : k < b.cells.size
          · have hlp : k < b.premium.size := by have := H3.out; have := H5.out; omega
            cases hsm : cellB b.cells[k].toNat with
            | false =>
              have HE : Hid (b.ok = false) := Lib.hid (by rw [HN.out, show allC b.cells = false from all_get hlt hsm, Bool.and_false])
              go_wp2_with fail
              refine (l11Cell_any _ _).mono ?_
              rintro e w' ⟨rfl, rfl⟩
              rw [hsm]
              clear hsm
              go_wp2
              go_ret
              exact ⟨ret_bool HE.out.symm, HD.out⟩
            | true =>
              have HA2 : Hid (upTo cellB b.cells (k + 1)) := Lib.hid (all_step hlt HA.out hsm)
              cases hpm : premB b.premium[k].toNat with
              | false =>
                have HE : Hid (b.ok = false) := Lib.hid (by rw [HN.out, show allP b.premium = false from all_get hlp hpm, Bool.false_and])
                go_wp2_with fail
                refine (l11Cell_any _ _).mono ?_
                rintro e w' ⟨rfl, rfl⟩
                rw [hsm]
                clear hsm
                go_wp2_with fail
                refine (l11Premium_any _ _).mono ?_
                rintro e w' ⟨rfl, rfl⟩
                rw [hpm]
                clear hpm
                go_wp2
                go_ret
                exact ⟨ret_bool HE.out.symm, HD.out⟩
              | true =>
                have HB2 : Hid (upTo premB b.premium (k + 1)) := Lib.hid (all_step hlp HB.out hpm)
                go_wp2_with fail
                refine (l11Cell_any _ _).mono ?_
                rintro e w' ⟨rfl, rfl⟩
                rw [hsm]
                clear hsm
                go_wp2_with fail
                refine (l11Premium_any _ _).mono ?_
                rintro e w' ⟨rfl, rfl⟩
                rw [hpm]
                clear hpm
                go_wp2
                go_roundw
                case rel => exact ⟨k + 1, by omega, by go_num, HA2, HB2, trivial⟩
                case measure => simp [intOf]; omega
          · have HE : Hid (b.ok = true) := Lib.hid (by
              have h3 := H3.out
              have h5 := H5.out
              rw [HN.out, show allP b.premium = true from all_end (k := k) (by omega) HB.out, show allC b.cells = true from all_end (k := k) (by omega) HA.out]; rfl)
            go_wp2
            go_ret
            exact ⟨ret_bool HE.out.symm, HD.out⟩
      · have h6 : ((b.cells.size : Int) != (q : Int)) = true := by simp; omega
        have HN : Hid (b.ok = false) := Lib.hid (HN2.out (by omega))
        have H3 := Lib.hid h3
        clear HN1 HN2 HY h3 h5
        go_enter Tryz.func53, Tryz.ntmps53
        go_wp2_with fail
        go_quiet ((go_at_call 114; exact quiet_of_eq (HI1.out _)))
        go_wp2
        go_ret
        exact ⟨ret_bool HN.out.symm, ⟨_, rfl⟩⟩
    · have h4 : ((b.premium.size : Int) != (q : Int)) = true := by simp; omega
      have HN : Hid (b.ok = false) := Lib.hid (HN1.out (by rw [HSZ.out, HQ.out]; omega))
      clear HN1 HN2 HY h3
      go_enter Tryz.func53, Tryz.ntmps53
      go_wp2_with fail
      go_quiet ((go_at_call 114; exact quiet_of_eq (HI1.out _)))
      go_wp2
      go_ret
      exact ⟨ret_bool HN.out.symm, ⟨_, rfl⟩⟩
end Go.Proofs.YtpkadgibfmjmcaaGreatDoor
