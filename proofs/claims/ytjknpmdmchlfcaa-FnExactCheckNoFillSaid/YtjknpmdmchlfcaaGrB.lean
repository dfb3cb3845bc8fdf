/- Contracts: the reference's test on grids; patterns and words that fit. For grids of at most 5 rows and columns. -/
import Derived.Test.YtjknpmdmchlfcaaGrA
import Derived.Deep.RegionHeld3
import Derived.Test.YtjknpmdmchlfcaaBox
namespace Go.Proofs.Ytjknpmdmchlfcaa
open Go.ChangeShapes Go.WideShapes Go.ChangeAt Go.RowKit Go.Sort

theorem gridAll_no {s : ByteArray} {k : Nat} (h : k < s.size) (hp : gridCh s[k] = false) : gridAll s = false := by
  unfold gridAll
  exact all_false_of (k := k) (by simpa using h) hp
theorem gridAll_yes {s : ByteArray} (h : (s.data.toList.take s.size).all gridCh = true) : gridAll s = true := by
  unfold gridAll
  rwa [List.take_of_length_le (by simp)] at h
set_option maxRecDepth 100000 in
set_option maxHeartbeats 4000000 in
theorem l25Ok_any (R C : Int) (s : ByteArray) (b o : Nat) (w : World) (hg : GAt w b o R C s) (hs : s.size ≤ 9223372036854775807) (hR : -9223372036854775808 ≤ R ∧ R ≤ 9223372036854775807) (hC : -9223372036854775808 ≤ C ∧ C ≤ 9223372036854775807) :
    Calls Try.prog 27 #[.pointer (some ⟨b, o, none⟩)] w fun e w' => e = .returned (.bool (gridOk R C s)) ∧ Drew w w' := by
  have HG := Lib.hid hg
  obtain ⟨g0, g1, g2⟩ := hg
  have HI : Hid (∀ x W, Calls Try.prog 51 #[.int .i64 x, .int .i64 1, .int .i64 5] W fun e w' => e = .returned (.bool (withinB x 1 5)) ∧ W = w') := Lib.hid (fun x W => l00In_any x 1 5 W)
  cases h1 : withinB R 1 5 with
  | false =>
    have HN := Lib.hid (grid_r (C := C) (s := s) h1)
    have HI1 : Hid (∀ W, Calls Try.prog 51 #[.int .i64 R, .int .i64 1, .int .i64 5] W fun e w' => e = .returned (.bool false) ∧ W = w') := Lib.hid (fun W => by have := HI.out R W; rwa [h1] at this)
    clear h1
    go_enter Try.func27, Try.ntmps27
    go_wp2_with fail
    go_quiet ((go_at_call 51; exact quiet_of_eq (HI1.out _)))
    go_wp2
    go_ret
    exact ⟨ret_bool HN.out.symm, ⟨_, rfl⟩⟩
  | true =>
    have HI1 : Hid (∀ W, Calls Try.prog 51 #[.int .i64 R, .int .i64 1, .int .i64 5] W fun e w' => e = .returned (.bool true) ∧ W = w') := Lib.hid (fun W => by have := HI.out R W; rwa [h1] at this)
    cases h2 : withinB C 1 5 with
    | false =>
      have HN := Lib.hid (grid_c (R := R) (s := s) h2)
      have HI2 : Hid (∀ W, Calls Try.prog 51 #[.int .i64 C, .int .i64 1, .int .i64 5] W fun e w' => e = .returned (.bool false) ∧ W = w') := Lib.hid (fun W => by have := HI.out C W; rwa [h2] at this)
      have hne : R ≠ C := fun e => by rw [e, h2] at h1; cases h1
      have HH := Lib.hid hne
      clear h1 h2 hne
      go_enter Try.func27, Try.ntmps27
      go_wp2_with fail
      go_quiet (((first | (go_at_call_of 51 (Value.int .i64 R); exact quiet_of_eq (HI1.out _)) | (go_at_call_of 51 (Value.int .i64 C); exact quiet_of_eq (HI2.out _)))))
      go_wp2
      go_ret
      exact ⟨ret_bool HN.out.symm, ⟨_, rfl⟩⟩
    | true =>
      have HI2 : Hid (∀ W, Calls Try.prog 51 #[.int .i64 C, .int .i64 1, .int .i64 5] W fun e w' => e = .returned (.bool true) ∧ W = w') := Lib.hid (fun W => by have := HI.out C W; rwa [h2] at this)
      have HIN := Lib.hid (grid_in (s := s) h1 h2)
      have HNO := Lib.hid (grid_s (s := s) (R := R) (C := C))
      obtain ⟨r, rfl, r1, r2⟩ := within_nat (by omega) h1
      obtain ⟨c, rfl, c1, c2⟩ := within_nat (by omega) h2
      obtain ⟨q, hq⟩ : ∃ q, q = r * c := ⟨_, rfl⟩
      have hqi : (r : Int) * (c : Int) = (q : Int) := by rw [hq]; push_cast; rfl
      have hq3 : q ≤ 25 := by rw [hq]; exact small_mul (by omega) (by omega)
      clear h1 h2 HI
      by_cases h3 : s.size = q
      · have HN : Hid (gridOk r c s = gridAll s) := Lib.hid (HIN.out (by rw [hqi, h3]))
        have h4 : ((s.size : Int) == (q : Int)) = true := by rw [h3]; simp
        have h5 : ((s.size : Int) != (q : Int)) = false := by rw [h3]; simp
        have HQ := Lib.hid hq
        have H3 := Lib.hid h3
        clear hq h3 HIN HNO
        go_enter Try.func27, Try.ntmps27
        go_wp2_with fail
        go_quiet (((first | (go_at_call_of 51 (Value.int .i64 (r : Int)); exact quiet_of_eq (HI1.out _)) | (go_at_call_of 51 (Value.int .i64 (c : Int)); exact quiet_of_eq (HI2.out _)))))
        replace HG := Lib.hid (HG.out.drew ⟨nq, rfl⟩)
        clear g0 g1 g2 HI1 HI2 h4 h5
        have HD : Hid (Drew w (w.drewN nq)) := Lib.hid ⟨_, rfl⟩
        generalize w.drewN nq = w1 at *
        obtain ⟨g0, g1, g2⟩ := HG.out
        go_wp2
        go_loopw [3] (fun i wr => ∃ k : Nat, k ≤ s.size ∧ i = .int .i64 k ∧ Hid ((s.data.toList.take k).all gridCh = true) ∧ w1 = wr) (fun i _ => s.size - (intOf i).toNat)
        case atStart => exact ⟨0, Nat.zero_le _, rfl, Lib.hid rfl, rfl⟩
        case round =>
          obtain ⟨k, hk, rfl, HA, rfl⟩ := hrel
          by_cases hlt : k < s.size
          · cases hsm : gridCh s[k] with
            | false =>
              have HN2 : Hid (gridOk r c s = false) := Lib.hid (by rw [HN.out]; exact gridAll_no hlt hsm)
              obtain ⟨q1, q2, q3⟩ := gridCh_no hsm
              have p1 : ((s[k].toNat : Int) != 35) = true := by rw [bne, q1]; rfl
              have p2 : ((s[k].toNat : Int) != 46) = true := by rw [bne, q2]; rfl
              clear hsm
              go_wp2_with fail
              refine (l01Small_any _ _).mono ?_
              rintro e w' ⟨rfl, rfl⟩
              rw [q3]
              clear q3
              go_wp2
              go_ret
              exact ⟨ret_bool HN2.out.symm, HD.out⟩
            | true =>
              have HN2 : Hid ((s.data.toList.take (k + 1)).all gridCh = true) := Lib.hid (by rw [take_all_succ (by simpa using hlt), HA.out, Bool.true_and]; exact hsm)
              have HY := Lib.hid (gridCh_yes hsm)
              clear hsm
              cases q1 : ((s[k].toNat : Int) == 35) with
              | true =>
                have p1 : ((s[k].toNat : Int) != 35) = false := by rw [bne, q1]; rfl
                go_wp2
                go_roundw
                case rel => exact ⟨k + 1, by omega, by go_num, HN2, trivial⟩
                case measure => simp [intOf]; omega
              | false =>
                have p1 : ((s[k].toNat : Int) != 35) = true := by rw [bne, q1]; rfl
                cases q2 : ((s[k].toNat : Int) == 46) with
                | true =>
                  have p2 : ((s[k].toNat : Int) != 46) = false := by rw [bne, q2]; rfl
                  go_wp2
                  go_roundw
                  case rel => exact ⟨k + 1, by omega, by go_num, HN2, trivial⟩
                  case measure => simp [intOf]; omega
                | false =>
                  have p2 : ((s[k].toNat : Int) != 46) = true := by rw [bne, q2]; rfl
                  have q3 := HY.out q1 q2
                  go_wp2_with fail
                  refine (l01Small_any _ _).mono ?_
                  rintro e w' ⟨rfl, rfl⟩
                  rw [q3]
                  clear q3
                  go_wp2
                  go_roundw
                  case rel => exact ⟨k + 1, by omega, by go_num, HN2, trivial⟩
                  case measure => simp [intOf]; omega
          · obtain rfl : k = s.size := by omega
            have HN2 : Hid (gridOk r c s = true) := Lib.hid (by rw [HN.out]; exact gridAll_yes HA.out)
            go_wp2
            go_ret
            exact ⟨ret_bool HN2.out.symm, HD.out⟩
      · have HN : Hid (gridOk r c s = false) := Lib.hid (HNO.out (by rw [hqi]; omega))
        have h4 : ((s.size : Int) == (q : Int)) = false := beq_eq_false_iff_ne.2 (by omega)
        have h5 : ((s.size : Int) != (q : Int)) = true := by rw [bne, h4]; rfl
        have HQ := Lib.hid hq
        clear hq h3 HIN HNO
        go_enter Try.func27, Try.ntmps27
        go_wp2_with fail
        go_quiet (((first | (go_at_call_of 51 (Value.int .i64 (r : Int)); exact quiet_of_eq (HI1.out _)) | (go_at_call_of 51 (Value.int .i64 (c : Int)); exact quiet_of_eq (HI2.out _)))))
        go_wp2
        go_ret
        exact ⟨ret_bool HN.out.symm, ⟨_, rfl⟩⟩
set_option maxHeartbeats 2000000 in
theorem l25Fits_any (p x : ByteArray) (w : World) (hp : p.size ≤ 9223372036854775807) (_hx : x.size ≤ 9223372036854775807) :
    Calls Try.prog 99 #[.string p, .string x] w fun e w' => e = .returned (.bool (fitsL p.data.toList x.data.toList)) ∧ Drew w w' := by
  have hl1 : p.data.toList.length = p.size := by simp
  have hl2 : x.data.toList.length = x.size := by simp
  have HL1 := Lib.hid hl1
  have HL2 := Lib.hid hl2
  clear hl1 hl2
  by_cases hlen : p.size = x.size
  · have hn : ((p.size : Int) != (x.size : Int)) = false := by rw [hlen]; simp
    have hn2 : ((p.size : Int) == (x.size : Int)) = true := by rw [hlen]; simp
    have HE := Lib.hid hlen
    clear hlen
    go_enter Try.func99, Try.ntmps99
    go_wp2
    clear hn hn2
    go_loopw [5] (fun i wr => ∃ k : Nat, k ≤ x.size ∧ i = .int .i64 k ∧ Hid (fitsL p.data.toList x.data.toList = fitsL (p.data.toList.drop k) (x.data.toList.drop k)) ∧ Drew w wr) (fun i _ => x.size - (intOf i).toNat)
    case atStart => exact ⟨0, Nat.zero_le _, rfl, Lib.hid rfl, Drew.refl _⟩
    case round =>
      obtain ⟨k, hk, rfl, HA, hd⟩ := hrel
      by_cases hlt : k < x.size
      · have hlp : k < p.size := by rw [HE.out]; exact hlt
        have HST : Hid (fitsL p.data.toList x.data.toList = ((p[k] == 46 || p[k] == x[k]) && fitsL (p.data.toList.drop (k + 1)) (x.data.toList.drop (k + 1)))) := Lib.hid (by
          rw [HA.out, fits_step (by rw [HL1.out]; exact hlp) (by rw [HL2.out]; exact hlt)]; rfl)
        clear HA
        by_cases h1 : p[k] = 46
        · have q1 : ((p[k].toNat : Int) == 46) = true := by rw [h1]; rfl
          have q2 : ((p[k].toNat : Int) != 46) = false := by rw [h1]; rfl
          have HN : Hid (fitsL p.data.toList x.data.toList = fitsL (p.data.toList.drop (k + 1)) (x.data.toList.drop (k + 1))) := Lib.hid (by rw [HST.out, h1]; simp)
          clear h1
          go_wp2_with fail
          go_quiet (fail)
          go_wp2
          go_roundw
          case rel => exact ⟨k + 1, by omega, by go_num, HN, hd.drewN _⟩
          case measure => simp [intOf]; omega
        · have q1 : ((p[k].toNat : Int) == 46) = false := beq_eq_false_iff_ne.2 (fun e => h1 (UInt8.toNat_inj.1 (by have h46 : (46 : UInt8).toNat = 46 := rfl; omega)))
          have q2 : ((p[k].toNat : Int) != 46) = true := by simpa using q1
          by_cases h2 : p[k] = x[k]
          · have q3 : ((p[k].toNat : Int) == (x[k].toNat : Int)) = true := by rw [h2]; simp
            have q4 : ((p[k].toNat : Int) != (x[k].toNat : Int)) = false := by rw [h2]; simp
            have HN : Hid (fitsL p.data.toList x.data.toList = fitsL (p.data.toList.drop (k + 1)) (x.data.toList.drop (k + 1))) := Lib.hid (by rw [HST.out, h2]; simp)
            clear h1 h2
            go_wp2_with fail
            go_quiet (fail)
            go_wp2
            go_roundw
            case rel => exact ⟨k + 1, by omega, by go_num, HN, hd.drewN _⟩
            case measure => simp [intOf]; omega
          · have q3 : ((p[k].toNat : Int) == (x[k].toNat : Int)) = false := beq_eq_false_iff_ne.2 (fun e => h2 (UInt8.toNat_inj.1 (by omega)))
            have q4 : ((p[k].toNat : Int) != (x[k].toNat : Int)) = true := by simpa using q3
            have HN : Hid (fitsL p.data.toList x.data.toList = false) := Lib.hid (by rw [HST.out]; simp [h1, h2])
            clear h1 h2
            go_wp2_with fail
            go_quiet (fail)
            go_wp2
            go_ret
            exact ⟨ret_bool HN.out.symm, hd.drewN _⟩
      · obtain rfl : k = x.size := by omega
        have HN : Hid (fitsL p.data.toList x.data.toList = true) := Lib.hid (by rw [HA.out]; exact fits_end (by rw [HL1.out, HE.out]; exact Nat.le_refl _) (by rw [HL2.out]; exact Nat.le_refl _))
        go_wp2
        go_ret
        exact ⟨ret_bool HN.out.symm, hd⟩
  · have hn : ((p.size : Int) != (x.size : Int)) = true := by simp; omega
    have hn2 : ((p.size : Int) == (x.size : Int)) = false := by simp; omega
    have HN : Hid (fitsL p.data.toList x.data.toList = false) := Lib.hid (by
      cases h : fitsL p.data.toList x.data.toList with
      | false => rfl
      | true => exact absurd (fits_len _ _ h) (by rw [HL1.out, HL2.out]; exact hlen))
    clear hlen
    go_enter Try.func99, Try.ntmps99
    go_wp2
    go_ret
    exact ⟨ret_bool HN.out.symm, Drew.refl _⟩
end Go.Proofs.Ytjknpmdmchlfcaa
