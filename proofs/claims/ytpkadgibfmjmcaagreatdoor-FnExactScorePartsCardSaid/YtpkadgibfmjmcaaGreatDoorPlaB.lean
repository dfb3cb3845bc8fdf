/- Contracts: the reference's test on plays. For valid boards; the whole test: no condition but that lengths fit an int. -/
import Derived.Test.YtpkadgibfmjmcaaGreatDoorPlaA
import Derived.Test.YtpkadgibfmjmcaaGreatDoorBrG
namespace Go.Proofs.YtpkadgibfmjmcaaGreatDoor
open Go.ChangeShapes Go.WideShapes Go.ChangeAt Go.RowKit Go.Sort

/-! ### Plain -/
theorem fitTo_succ {F : Fl} {R C : Int} {l : List UInt8} {k : Nat} (h : fitTo F R C l k = true) (h2 : F R (C + k) = 46 ∨ F R (C + k) = l.getD k 0) : fitTo F R C l (k + 1) = true := by
  unfold fitTo at h ⊢
  rw [List.range_succ, List.all_append, h, Bool.true_and]
  simp only [List.all_cons, List.all_nil, Bool.and_true, Bool.or_eq_true, beq_iff_eq]
  exact h2
theorem fitTo_no {F : Fl} {R C : Int} {l : List UInt8} {k n : Nat} (hk : k < n) (h1 : F R (C + k) ≠ 46) (h2 : F R (C + k) ≠ l.getD k 0) : fitTo F R C l n = false := by
  unfold fitTo
  rw [List.all_eq_false]
  refine ⟨k, List.mem_range.2 hk, ?_⟩
  rw [Bool.not_eq_true, Bool.or_eq_false_iff, beq_eq_false_iff_ne, beq_eq_false_iff_ne]
  exact ⟨h1, h2⟩
theorem freeTo_succ {F : Fl} {R C : Int} {k : Nat} : freeTo F R C (k + 1) = (freeTo F R C k || F R (C + k) == 46) := by
  unfold freeTo
  rw [List.range_succ, List.any_append]
  simp
theorem fits_in {F : Fl} {n R C : Int} {l : List UInt8} (h : (withinB R 0 (n - 1) && withinB C 0 (n - 1)) = false) : fitsF F n R C l = false := by
  unfold fitsF; rw [h]; rfl
theorem fits_long {F : Fl} {n R C : Int} {l : List UInt8} (h : ¬ C + l.length ≤ n) : fitsF F n R C l = false := by
  unfold fitsF; rw [decide_eq_false h]; simp
theorem fits_before {F : Fl} {n R C : Int} {l : List UInt8} (h : fullC (F R (C - 1)) = true) : fitsF F n R C l = false := by
  unfold fitsF; rw [h]; simp
theorem fits_behind {F : Fl} {n R C : Int} {l : List UInt8} (h : fullC (F R (C + l.length)) = true) : fitsF F n R C l = false := by
  unfold fitsF; rw [h]; simp
theorem fits_not {F : Fl} {n R C : Int} {l : List UInt8} (h : fitTo F R C l l.length = false) : fitsF F n R C l = false := by
  unfold fitsF; rw [h]; simp
theorem fits_yes {F : Fl} {n R C : Int} {l : List UInt8} (h0 : (withinB R 0 (n - 1) && withinB C 0 (n - 1)) = true) (h1 : C + l.length ≤ n) (h2 : fullC (F R (C - 1)) = false) (h3 : fullC (F R (C + l.length)) = false) (h4 : fitTo F R C l l.length = true) :
    fitsF F n R C l = freeTo F R C l.length := by
  unfold fitsF; rw [h0, decide_eq_true h1, h2, h3, h4]; rfl
theorem int_46 {c : UInt8} (h : ((c.toNat : Int) == 46) = true) : c = 46 := u8_46 (by simp at h; omega)
theorem int_not46 {c : UInt8} (h : ((c.toNat : Int) == 46) = false) : c ≠ 46 := fun e => by subst e; simp at h
theorem int_eq {c d : UInt8} (h : ((c.toNat : Int) != (d.toNat : Int)) = false) : c = d := UInt8.toNat_inj.1 (by simp at h; omega)
theorem int_ne {c d : UInt8} (h : ((c.toNat : Int) != (d.toNat : Int)) = true) : c ≠ d := fun e => by subst e; simp at h

theorem Drew.times (w : World) (n : Nat) : Drew w (w.drewN n) := ⟨n, rfl⟩
set_option maxRecDepth 100000 in
set_option maxHeartbeats 4000000 in
theorem l12Fits_any (f : Brd) (n : Nat) (row col : Int) (down : Bool) (s : ByteArray) (g o : Nat) (w : World) (hb0 : f.Good n) (hg : BAt w g o f) (hs : s.size ≤ 12) :
    Calls Tryz.prog 91 #[.pointer (some ⟨g, o, none⟩), .agg #[.int .i64 row, .int .i64 col, .bool down, .string s]] w fun e w' => e = .returned (.bool (fitsF f.cell f.size row col s.data.toList)) ∧ Below w.heap.size w w' := by
  have hlt := hg.lt
  have hn15 := hb0.hi
  have hl : s.data.toList.length = s.size := by simp
  have HSZ := Lib.hid hb0.size
  have hx0 : Below w.heap.size w (w.alloc (.cells #[.int .i64 row, .int .i64 col, .bool down, .string s] 38)) := (Below.refl _ _).alloc (Nat.le_refl _) _
  have V0 := Lib.hid (VarAt.new w 38 [.int .i64 row, .int .i64 col, .bool down, .string s])
  have HG := Lib.hid (hg.kept hx0)
  have HFU : Hid (∀ c' bv W, fullC (f.cell row c') = bv → BAt W g o f → Calls Tryz.prog 155 #[.pointer (some ⟨g, o, none⟩), .int .i64 row, .int .i64 c'] W fun e w' => e = .returned (.bool bv) ∧ Drew W w') := Lib.hid (fun c' bv W e h => by rw [← e]; exact l11Full_any f n row c' g o W hb0 h)
  have HAT : Hid (∀ c' W, f.inB row c' = true → BAt W g o f → Calls Tryz.prog 156 #[.pointer (some ⟨g, o, none⟩), .int .i64 row, .int .i64 c'] W fun e w' => e = .returned (.int .u8 ((f.cell row c').toNat : Int)) ∧ Drew W w') := Lib.hid (fun c' W hi h => l11At_any f n row c' g o W hb0 h hi)
  have HIB : Hid (∀ c', f.inB row c' = true ↔ (0 ≤ row ∧ row < n) ∧ 0 ≤ c' ∧ c' < n) := Lib.hid (fun c' => hb0.inB)
  have HIQ : Hid (f.inB row col = (withinB row 0 (f.size - 1) && withinB col 0 (f.size - 1))) := Lib.hid rfl
  have HCI : Hid (∀ bv W, f.inB row col = bv → BAt W g o f → Calls Tryz.prog 154 #[.pointer (some ⟨g, o, none⟩), .int .i64 row, .int .i64 col] W fun e w' => e = .returned (.bool bv) ∧ W = w') := Lib.hid (fun bv W e h => by rw [← e]; exact l11In_any f n row col g o W hb0 h)
  have HL := Lib.hid hl
  clear hg hb0 hl
  cases hi : f.inB row col with
  | false =>
    have HN : Hid (fitsF f.cell f.size row col s.data.toList = false) := Lib.hid (fits_in (HIQ.out.symm.trans hi))
    have HIN : Hid (∀ W, BAt W g o f → Calls Tryz.prog 154 #[.pointer (some ⟨g, o, none⟩), .int .i64 row, .int .i64 col] W fun e w' => e = .returned (.bool false) ∧ W = w') := Lib.hid (fun W h => HCI.out _ W hi h)
    have H1 : Hid True := Lib.hid trivial
    have H2 : Hid True := Lib.hid trivial
    clear hi
    generalize fitsF f.cell f.size row col s.data.toList = res at *
    go_enter Tryz.func91, Tryz.ntmps91
    go_upto_region 2 with fail
    generalize w.alloc (.cells #[.int .i64 row, .int .i64 col, .bool down, .string s] 38) = w1 at *
    obtain ⟨g0, g1, g2⟩ := HG.out
    rw [HSZ.out] at g0
    clear g1 g2
    have c0 := V0.out.cell (i := 0) rfl
    have c1 := V0.out.cell (i := 1) rfl
    go_quiet ((first | (go_at_call 154; with_reducible exact quiet_of_eq (HIN.out _ (HG.out.drew (Drew.times _ _)))) | (go_at_call 155; with_reducible exact quiet_of_drew (HFU.out _ _ _ (by first | exact H1.out | exact H2.out) (HG.out.drew (Drew.times _ _))))))
    go_wp2
    go_ret
    exact ⟨ret_bool HN.out.symm, (hx0.trans ((Drew.below ⟨_, rfl⟩ _).mono hx0.size))⟩
  | true =>
    have HIN : Hid (∀ W, BAt W g o f → Calls Tryz.prog 154 #[.pointer (some ⟨g, o, none⟩), .int .i64 row, .int .i64 col] W fun e w' => e = .returned (.bool true) ∧ W = w') := Lib.hid (fun W h => HCI.out _ W hi h)
    have HI0 := Lib.hid (HIQ.out.symm.trans hi)
    obtain ⟨⟨r0, r1⟩, k0, k1⟩ := (HIB.out col).1 hi
    clear hi
    have wr1 : IntKind.i64.wrap (col + (s.size : Int)) = col + s.size := IntWalk.i64_in _ (by omega)
    have wr2 : IntKind.i64.wrap (col - 1) = col - 1 := IntWalk.i64_in _ (by omega)
    by_cases hlen : col + s.size ≤ n
    · have hgt : ¬ (n : Int) < col + (s.size : Int) := by omega
      cases h1 : fullC (f.cell row (col - 1)) with
      | true =>
        have HN : Hid (fitsF f.cell f.size row col s.data.toList = false) := Lib.hid (fits_before h1)
        have H1 := Lib.hid h1
        have H2 : Hid True := Lib.hid trivial
        clear h1
        generalize fitsF f.cell f.size row col s.data.toList = res at *
        go_enter Tryz.func91, Tryz.ntmps91
        go_upto_region 2 with fail
        generalize w.alloc (.cells #[.int .i64 row, .int .i64 col, .bool down, .string s] 38) = w1 at *
        obtain ⟨g0, g1, g2⟩ := HG.out
        rw [HSZ.out] at g0
        clear g1 g2
        have c0 := V0.out.cell (i := 0) rfl
        have c1 := V0.out.cell (i := 1) rfl
        go_quiet ((first | (go_at_call 154; with_reducible exact quiet_of_eq (HIN.out _ (HG.out.drew (Drew.times _ _)))) | (go_at_call 155; with_reducible exact quiet_of_drew (HFU.out _ _ _ (by first | exact H1.out | exact H2.out) (HG.out.drew (Drew.times _ _))))))
        go_wp2
        go_ret
        exact ⟨ret_bool HN.out.symm, (hx0.trans ((Drew.below ⟨_, rfl⟩ _).mono hx0.size))⟩
      | false =>
        cases h2 : fullC (f.cell row (col + s.size)) with
        | true =>
          have HN : Hid (fitsF f.cell f.size row col s.data.toList = false) := Lib.hid (fits_behind (by rw [HL.out]; exact h2))
          have H1 := Lib.hid h1
          have H2 := Lib.hid h2
          clear h1 h2
          generalize fitsF f.cell f.size row col s.data.toList = res at *
          go_enter Tryz.func91, Tryz.ntmps91
          go_upto_region 2 with fail
          generalize w.alloc (.cells #[.int .i64 row, .int .i64 col, .bool down, .string s] 38) = w1 at *
          obtain ⟨g0, g1, g2⟩ := HG.out
          rw [HSZ.out] at g0
          clear g1 g2
          have c0 := V0.out.cell (i := 0) rfl
          have c1 := V0.out.cell (i := 1) rfl
          go_quiet ((first | (go_at_call 154; with_reducible exact quiet_of_eq (HIN.out _ (HG.out.drew (Drew.times _ _)))) | (go_at_call 155; with_reducible exact quiet_of_drew (HFU.out _ _ _ (by first | exact H1.out | exact H2.out) (HG.out.drew (Drew.times _ _))))))
          go_wp2
          go_ret
          exact ⟨ret_bool HN.out.symm, (hx0.trans ((Drew.below ⟨_, rfl⟩ _).mono hx0.size))⟩
        | false =>
          have HYES : Hid (fitTo f.cell row col s.data.toList s.size = true → fitsF f.cell f.size row col s.data.toList = freeTo f.cell row col s.size) := Lib.hid (fun h => by
            have := fits_yes HI0.out (l := s.data.toList) (by rw [HL.out, HSZ.out]; exact hlen) h1 (by rw [HL.out]; exact h2) (by rw [HL.out]; exact h)
            rwa [HL.out] at this)
          have HNOT : Hid (fitTo f.cell row col s.data.toList s.size = false → fitsF f.cell f.size row col s.data.toList = false) := Lib.hid (fun h => fits_not (by rw [HL.out]; exact h))
          have H1 := Lib.hid h1
          have H2 := Lib.hid h2
          clear h1 h2
          generalize fitsF f.cell f.size row col s.data.toList = res at *
          go_enter Tryz.func91, Tryz.ntmps91
          go_upto_region 2 with fail
          generalize w.alloc (.cells #[.int .i64 row, .int .i64 col, .bool down, .string s] 38) = w1 at *
          obtain ⟨g0, g1, g2⟩ := HG.out
          rw [HSZ.out] at g0
          clear g1 g2
          have c0 := V0.out.cell (i := 0) rfl
          have c1 := V0.out.cell (i := 1) rfl
          go_quiet ((first | (go_at_call 154; with_reducible exact quiet_of_eq (HIN.out _ (HG.out.drew (Drew.times _ _)))) | (go_at_call 155; with_reducible exact quiet_of_drew (HFU.out _ _ _ (by first | exact H1.out | exact H2.out) (HG.out.drew (Drew.times _ _))))))
          replace HG := Lib.hid (HG.out.drew ⟨nq, rfl⟩)
          have hd := Drew.below (a := w1) ⟨nq, rfl⟩ w1.heap.size
          have hb := hx0.trans (hd.mono hx0.size)
          replace V0 := Lib.hid (V0.out.kept hd)
          clear c0 c1 g0 hd hx0 wr1 wr2 hgt
          generalize w1.drewN nq = w2 at *
          have c3 := V0.out.cell (i := 3) rfl
          go_wp2_with fail
          go_loopw [6, 7] (fun fv iv wr => ∃ k : Nat, k ≤ s.size ∧ iv = .int .i64 k ∧ fv = .bool (freeTo f.cell row col k) ∧ Hid (fitTo f.cell row col s.data.toList k = true) ∧ Hid (BAt wr g o f) ∧ Hid (VarAt wr w.heap.size 38 [.int .i64 row, .int .i64 col, .bool down, .string s]) ∧ Below w.heap.size w wr) (fun _ iv _ => s.size - (intOf iv).toNat)
          case atStart => exact ⟨0, Nat.zero_le _, rfl, rfl, Lib.hid rfl, HG, V0, hb⟩
          case round =>
            clear HG V0 hb c3
            obtain ⟨k, hk, rfl, rfl, HF, HG, V0, hb⟩ := hrel
            have c0 := V0.out.cell (i := 0) rfl
            have c1 := V0.out.cell (i := 1) rfl
            have c3 := V0.out.cell (i := 3) rfl
            by_cases hk2 : k < s.size
            · have hin : f.inB row (col + k) = true := (HIB.out _).2 (by omega)
              have HFS := Lib.hid (freeTo_succ (F := f.cell) (R := row) (C := col) (k := k))
              have HGD := Lib.hid (getD_byt hk2)
              cases e1 : (((f.cell row (col + k)).toNat : Int) == 46) with
              | true =>
                have HF2 : Hid (fitTo f.cell row col s.data.toList (k + 1) = true) := Lib.hid (fitTo_succ HF.out (.inl (int_46 e1)))
                have HFE : Hid (freeTo f.cell row col (k + 1) = true) := Lib.hid (by rw [HFS.out, int_46 e1]; simp)
                go_wp2_with fail
                refine (HAT.out _ _ hin HG.out).mono ?_
                rintro e w3 ⟨rfl, hdq⟩
                have hd := hdq.bels
                clear hdq
                replace hb := hb.trans (hd.mono hb.size)
                replace c0 := cell_kept c0 hd
                replace c1 := cell_kept c1 hd
                replace c3 := cell_kept c3 hd
                replace V0 := Lib.hid (V0.out.kept hd)
                replace HG := Lib.hid (HG.out.kept hd)
                clear hd
                go_wp2
                go_roundw
                case rel => exact ⟨k + 1, by omega, by go_num, by rw [HFE.out], HF2, HG, V0, hb⟩
                case measure => simp [intOf]; omega
              | false =>
                have HFE : Hid (freeTo f.cell row col (k + 1) = freeTo f.cell row col k) := Lib.hid (by
                  rw [HFS.out, show (f.cell row (col + k) == 46) = false from beq_eq_false_iff_ne.2 (int_not46 e1), Bool.or_false])
                cases e2 : (((f.cell row (col + k)).toNat : Int) != (s[k].toNat : Int)) with
                | true =>
                  have HN : Hid (res = false) := Lib.hid (HNOT.out (fitTo_no hk2 (int_not46 e1) (by rw [HGD.out]; exact int_ne e2)))
                  go_wp2_with fail
                  refine (HAT.out _ _ hin HG.out).mono ?_
                  rintro e w3 ⟨rfl, hdq⟩
                  have hd := hdq.bels
                  clear hdq
                  replace hb := hb.trans (hd.mono hb.size)
                  replace c0 := cell_kept c0 hd
                  replace c1 := cell_kept c1 hd
                  replace c3 := cell_kept c3 hd
                  replace V0 := Lib.hid (V0.out.kept hd)
                  replace HG := Lib.hid (HG.out.kept hd)
                  clear hd
                  go_wp2
                  go_ret
                  exact ⟨ret_bool HN.out.symm, hb⟩
                | false =>
                  have HF2 : Hid (fitTo f.cell row col s.data.toList (k + 1) = true) := Lib.hid (fitTo_succ HF.out (.inr (by rw [HGD.out]; exact int_eq e2)))
                  go_wp2_with fail
                  refine (HAT.out _ _ hin HG.out).mono ?_
                  rintro e w3 ⟨rfl, hdq⟩
                  have hd := hdq.bels
                  clear hdq
                  replace hb := hb.trans (hd.mono hb.size)
                  replace c0 := cell_kept c0 hd
                  replace c1 := cell_kept c1 hd
                  replace c3 := cell_kept c3 hd
                  replace V0 := Lib.hid (V0.out.kept hd)
                  replace HG := Lib.hid (HG.out.kept hd)
                  clear hd
                  go_wp2
                  go_roundw
                  case rel => exact ⟨k + 1, by omega, by go_num, by rw [HFE.out], HF2, HG, V0, hb⟩
                  case measure => simp [intOf]; omega
            · obtain rfl : k = s.size := by omega
              have HN := Lib.hid (HYES.out HF.out)
              go_wp2
              go_ret
              exact ⟨ret_bool HN.out.symm, hb⟩
    · have HN : Hid (fitsF f.cell f.size row col s.data.toList = false) := Lib.hid (fits_long (by rw [HL.out, HSZ.out]; exact hlen))
      have H1 : Hid True := Lib.hid trivial
      have H2 : Hid True := Lib.hid trivial
      have hlen2 : (n : Int) < col + s.size := by omega
      generalize fitsF f.cell f.size row col s.data.toList = res at *
      go_enter Tryz.func91, Tryz.ntmps91
      go_upto_region 2 with fail
      generalize w.alloc (.cells #[.int .i64 row, .int .i64 col, .bool down, .string s] 38) = w1 at *
      obtain ⟨g0, g1, g2⟩ := HG.out
      rw [HSZ.out] at g0
      clear g1 g2
      have c0 := V0.out.cell (i := 0) rfl
      have c1 := V0.out.cell (i := 1) rfl
      go_quiet ((first | (go_at_call 154; with_reducible exact quiet_of_eq (HIN.out _ (HG.out.drew (Drew.times _ _)))) | (go_at_call 155; with_reducible exact quiet_of_drew (HFU.out _ _ _ (by first | exact H1.out | exact H2.out) (HG.out.drew (Drew.times _ _))))))
      go_wp2
      go_ret
      exact ⟨ret_bool HN.out.symm, (hx0.trans ((Drew.below ⟨_, rfl⟩ _).mono hx0.size))⟩
end Go.Proofs.YtpkadgibfmjmcaaGreatDoor
