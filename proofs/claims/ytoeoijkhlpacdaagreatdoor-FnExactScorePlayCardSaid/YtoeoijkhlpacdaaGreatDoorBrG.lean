/- Contracts: the reference's letters around a square. For valid boards. -/
import Derived.Test.YtoeoijkhlpacdaaGreatDoorBrE
namespace Go.Proofs.YtoeoijkhlpacdaaGreatDoor
open Go.ChangeShapes Go.WideShapes Go.ChangeAt Go.RowKit Go.Sort

/-! ### Plain -/
theorem upL_full {F : Fl} {c r : Int} {k : Nat} (h : fullC (F r c) = true) : upL F c (k + 1) r = F r c :: upL F c k (r - 1) := by
  rw [upL, if_pos h]
theorem upL_stop {F : Fl} {c r : Int} {k : Nat} (h : fullC (F r c) = false) : upL F c k r = [] := by
  cases k with
  | zero => rfl
  | succ k => rw [upL, h]; rfl
theorem dnL_full {F : Fl} {c r : Int} {k : Nat} (h : fullC (F r c) = true) : dnL F c (k + 1) r = F r c :: dnL F c k (r + 1) := by
  rw [dnL, if_pos h]
theorem dnL_stop {F : Fl} {c r : Int} {k : Nat} (h : fullC (F r c) = false) : dnL F c k r = [] := by
  cases k with
  | zero => rfl
  | succ k => rw [dnL, h]; rfl
/-- the letters that were read, and those that are left, are all -/
theorem run_step {pre rest U : List UInt8} {x : UInt8} (h : pre ++ x :: rest = U) : (pre ++ [x]) ++ rest = U := by
  rw [List.append_assoc]; exact h
theorem run_end {pre U : List UInt8} (h : pre ++ [] = U) : pre = U := by rwa [List.append_nil] at h

theorem Drew.bels {w w' : World} (h : Drew w w') : Below w.heap.size w w' := h.below _
theorem l14Free_any (b : Brd) (n : Nat) (r c : Int) (g o : Nat) (w : World) (hb : b.Good n) (hg : BAt w g o b) (hi : b.inB r c = true) :
    Calls Tryz.prog 66 #[.pointer (some ⟨g, o, none⟩), .int .i64 r, .int .i64 c] w fun e w' => e = .returned (.bool (!fullC (b.cell r c))) ∧ Drew w w' := by
  have HE : Hid ((!fullC (b.cell r c)) = (((b.cell r c).toNat : Int) == 46)) := Lib.hid (by
    rw [hb.full_eq hi, bne, Bool.not_not, Bool.eq_iff_iff, beq_iff_eq, beq_iff_eq]
    exact ⟨fun h => by rw [h]; rfl, fun h => u8_46 (by omega)⟩)
  go_enter Tryz.func66, Tryz.ntmps66
  go_wp2_with fail
  refine (l11In_any b n r c g o _ hb hg).mono ?_
  rintro e w' ⟨rfl, rfl⟩
  rw [hi]
  go_wp2_with fail
  refine (l11At_any b n r c g o _ hb hg hi).mono ?_
  rintro e w' ⟨rfl, hd⟩
  have HD := Lib.hid hd
  clear hd
  go_wp2
  go_ret
  exact ⟨ret_bool HE.out.symm, HD.out⟩
set_option maxRecDepth 100000 in
set_option maxHeartbeats 8000000 in
theorem l14Column_any (b : Brd) (n : Nat) (row col : Int) (g o : Nat) (w : World) (hb0 : b.Good n) (hg : BAt w g o b) (hr0 : 0 ≤ row) (hr1 : row < n) :
    Calls Tryz.prog 97 #[.pointer (some ⟨g, o, none⟩), .int .i64 row, .int .i64 col] w fun e w' => e = .returned (.agg #[.string (mkB (lowL (upL b.cell col 16 (row - 1)).reverse)), .string (mkB (lowL (dnL b.cell col 16 (row + 1))))]) ∧ Below w.heap.size w w' := by
  obtain ⟨i0, hi0, hi1, hi2, hi3⟩ := info_parts infoByte
  have hlt := hg.lt
  have hn15 := hb0.hi
  have HGD := Lib.hid hb0
  obtain ⟨sm, hsm⟩ : ∃ sm : ByteArray → ByteArray, ∀ s, sm s = mkB (lowL s.data.toList) := ⟨_, fun _ => rfl⟩
  obtain ⟨bk, hbk⟩ : ∃ bk : ByteArray → ByteArray, ∀ s, bk s = mkB s.data.toList.reverse := ⟨_, fun _ => rfl⟩
  have HSM : Hid (∀ s W, s.size ≤ 1048576 → Calls Tryz.prog 169 #[.string s] W fun e w' => e = .returned (.string (sm s)) ∧ Below W.heap.size W w') := Lib.hid (fun s W h => by rw [hsm]; exact l03Small_any s W h)
  have HBK : Hid (∀ s W, s.size ≤ 1048576 → Calls Tryz.prog 170 #[.string s] W fun e w' => e = .returned (.string (bk s)) ∧ Below W.heap.size W w') := Lib.hid (fun s W h => by rw [hbk]; exact l08Back_any s W h)
  have HFU : Hid (∀ r W, BAt W g o b → Calls Tryz.prog 168 #[.pointer (some ⟨g, o, none⟩), .int .i64 r, .int .i64 col] W fun e w' => e = .returned (.bool (fullC (b.cell r col))) ∧ Drew W w') := Lib.hid (fun r W h => l11Full_any b n r col g o W hb0 h)
  have HAT : Hid (∀ r W, BAt W g o b → b.inB r col = true → Calls Tryz.prog 116 #[.pointer (some ⟨g, o, none⟩), .int .i64 r, .int .i64 col] W fun e w' => e = .returned (.int .u8 ((b.cell r col).toNat : Int)) ∧ Drew W w') := Lib.hid (fun r W h hi => l11At_any b n r col g o W hb0 h hi)
  have HIN : Hid (∀ r, fullC (b.cell r col) = true → b.inB r col = true ∧ 0 ≤ r ∧ r < n) := Lib.hid (fun r h => by
    have h1 := hb0.full_in h
    exact ⟨h1, (hb0.inB.1 h1).1⟩)
  have HRES : Hid (Ending.returned (.agg #[.string (sm (bk (mkB (upL b.cell col 16 (row - 1))))), .string (sm (mkB (dnL b.cell col 16 (row + 1))))]) = .returned (.agg #[.string (mkB (lowL (upL b.cell col 16 (row - 1)).reverse)), .string (mkB (lowL (dnL b.cell col 16 (row + 1))))])) := Lib.hid (by
    rw [hsm, hsm, hbk, mkB_data, mkB_data, mkB_data])
  have HBL : Hid (∀ s, (bk s).size = s.size) := Lib.hid (fun s => by rw [hbk, mkB_size, List.length_reverse]; simp)
  have LU := Lib.hid (upL_len b.cell col 16 (row - 1))
  have LD := Lib.hid (dnL_len b.cell col 16 (row + 1))
  clear hsm hbk hb0
  generalize b.cell = F at *
  rw [← HRES.out]
  clear HRES
  obtain ⟨w3, hw3⟩ : ∃ w3, w3 = ((w.alloc (.cells #[.string ⟨#[]⟩, .string ⟨#[]⟩] 92)).alloc (.cells #[] 5)).alloc (.cells #[] 5) := ⟨_, rfl⟩
  have hb : Below w.heap.size w w3 := by rw [hw3]; exact (((Below.refl _ _).alloc (Nat.le_refl _) _).alloc (by simp) _).alloc (by simp; omega) _
  have V0 : Hid (VarAt w3 w.heap.size 92 [.string ⟨#[]⟩, .string ⟨#[]⟩]) := by
    rw [hw3]
    exact Lib.hid (((VarAt.new w 92 [.string ⟨#[]⟩, .string ⟨#[]⟩]).kept ((Below.refl _ _).alloc (Nat.le_refl _) _)).kept ((Below.refl _ _).alloc (Nat.le_refl _) _))
  have HG : Hid (BAt w3 g o b) := by
    rw [hw3]
    exact Lib.hid (((hg.kept ((Below.refl _ _).alloc (Nat.le_refl _) _)).kept ((Below.refl _ _).alloc (Nat.le_refl _) _)).kept ((Below.refl _ _).alloc (Nat.le_refl _) _))
  have HO1 : Hid (w3.ownsRow (w.heap.size + 1) 5 1 (.slice (some ⟨w.heap.size + 1, 0, none⟩) 0 0) 0 []) := by
    rw [hw3]
    have := World.ownsRow_made (base := w.heap.size + 1) (e := 5) (size := 1) (w.alloc (.cells #[.string ⟨#[]⟩, .string ⟨#[]⟩] 92)) #[] 0 (by simp) (by unfold maxLen; omega) rfl
    simp only [World.size_alloc] at this
    exact Lib.hid (own_below this ((Below.refl _ _).alloc (Nat.le_refl _) _))
  have HO2 : Hid (w3.ownsRow (w.heap.size + 1) 5 1 (.slice (some ⟨w.heap.size + 1 + 1, 0, none⟩) 0 0) 0 []) := by
    rw [hw3]
    have := World.ownsRow_made (base := w.heap.size + 1) (e := 5) (size := 1) ((w.alloc (.cells #[.string ⟨#[]⟩, .string ⟨#[]⟩] 92)).alloc (.cells #[] 5)) #[] 0 (by simp) (by unfold maxLen; omega) rfl
    simp only [World.size_alloc] at this
    exact Lib.hid this
  obtain ⟨gb, hgb⟩ : ∃ gb, gb = w.heap.size + 1 + 1 := ⟨_, rfl⟩
  have HW3 := Lib.hid hw3
  have hw3s : w3.heap.size = gb + 1 := by rw [hw3, hgb]; simp
  have HGB := Lib.hid hgb
  clear hw3 hg
  go_enter Tryz.func97, Tryz.ntmps97
  go_upto_region 3 with fail
  rw [← HW3.out]
  clear HW3
  rw [← hgb] at HO2
  rw [← hgb]
  have hgl : w.heap.size + 2 ≤ gb := by omega
  clear hgb HGB
  go_wp2_with fail
  go_loopw [7, 9] (fun ov iv wr => ∃ (pre : List UInt8) (k g1 cap : Nat) (r : Int), pre.length = k ∧ k ≤ 15 ∧ r + k + 1 = row ∧ -1 ≤ r ∧ iv = .int .i64 r ∧ ov = .slice (some ⟨g1, 0, none⟩) k cap ∧ Hid (pre ++ upL F col (16 - k) r = upL F col 16 (row - 1)) ∧ g1 ≠ gb ∧ gb < wr.heap.size ∧ Hid (wr.ownsRow (w.heap.size + 1) 5 1 (.slice (some ⟨g1, 0, none⟩) k cap) k (pre.flatMap U8.enc)) ∧ Hid (wr.ownsRow (w.heap.size + 1) 5 1 (.slice (some ⟨gb, 0, none⟩) 0 0) 0 []) ∧ Hid (VarAt wr w.heap.size 92 [.string ⟨#[]⟩, .string ⟨#[]⟩]) ∧ Hid (BAt wr g o b) ∧ Below w.heap.size w wr) (fun _ iv _ => (intOf iv + 1).toNat)
  case atStart => exact ⟨[], 0, w.heap.size + 1, 0, row - 1, rfl, by omega, by omega, by omega, by go_num, rfl, Lib.hid rfl, by omega, by omega, HO1, HO2, V0, HG, hb⟩
  case round =>
    clear HO1 HO2 V0 HG hb hw3s
    obtain ⟨pre, k, g1, cap, r, hpl, hk15, hrk, hr, rfl, rfl, HP, hne, hgw, HO, HX, V0, HG, hb⟩ := hrel
    cases hf : fullC (F r col) with
    | true =>
      obtain ⟨hin, hr2, hr3⟩ := HIN.out r hf
      obtain ⟨j, hj⟩ : ∃ j, 16 - k = j + 1 := ⟨15 - k, by omega⟩
      have HP2 : Hid ((pre ++ [F r col]) ++ upL F col (16 - (k + 1)) (r - 1) = upL F col 16 (row - 1)) := Lib.hid (by
        have h := HP.out
        rw [hj, upL_full hf] at h
        rw [show 16 - (k + 1) = j from by omega]
        exact run_step h)
      clear hj HP
      go_wp2_with fail
      refine (HFU.out r _ HG.out).mono ?_
      rintro e wq ⟨rfl, hdq⟩
      have hd := hdq.bels
      clear hdq
      rw [hf]
      clear hf
      have hgw2 := Nat.lt_of_lt_of_le hgw hd.size
      replace hb := hb.trans (hd.mono hb.size)
      replace HO := Lib.hid (own_below HO.out hd)
      replace HX := Lib.hid (own_below HX.out hd)
      replace V0 := Lib.hid (V0.out.kept hd)
      replace HG := Lib.hid (HG.out.kept hd)
      clear hd
      go_wp2_with fail
      refine (HAT.out r _ HG.out hin).mono ?_
      rintro e wq ⟨rfl, hdq⟩
      have hd := hdq.bels
      clear hdq
      clear hgw
      have hgw := Nat.lt_of_lt_of_le hgw2 hd.size
      clear hgw2
      replace hb := hb.trans (hd.mono hb.size)
      replace HO := Lib.hid (own_below HO.out hd)
      replace HX := Lib.hid (own_below HX.out hd)
      replace V0 := Lib.hid (V0.out.kept hd)
      replace HG := Lib.hid (HG.out.kept hd)
      clear hd
      generalize F r col = x at *
      have hx : Below wq.heap.size wq (wq.alloc (.cells #[.int .u8 ((x).toNat : Int)] 5)) := (Below.refl _ _).alloc (Nat.le_refl _) _
      have KN := Lib.hid (new_byte wq (x) 5)
      replace HO := Lib.hid (own_below HO.out hx)
      replace HX := Lib.hid (own_below HX.out hx)
      replace V0 := Lib.hid (V0.out.kept hx)
      replace HG := Lib.hid (HG.out.kept hx)
      have hz2 := hb.size
      replace hb := hb.trans (hx.mono hb.size)
      clear hx
      go_wp2_with (at_builtin; go_must (refine wpList_append_lies _ rfl (.tmp 21) (.tmp 26) 152 rfl (w.heap.size + 1) 5 i0 _ 1 1 Tryz.underlying152 hi0 hi1 hi2 hi3 rfl (by decide) _ (k) ((pre).flatMap U8.enc) (by rfl) HO.out ⟨wq.heap.size, 0, none⟩ 1 1 (U8.enc (x)) (by rfl) rfl KN.out (u8_one1 (x)) (by decide) ?c1 ?c2 ?c3 _ rfl ?_))
      case c1 => unfold maxLen; omega
      case c2 => omega
      case c3 => (first | omega | (simp only [World.size_alloc]; omega))
      intro g7 cap7 w7 hown hgr hwh hlt7
      have hb7 := hb.grown hgr hb.size (fun q e => by have := (HO.out.lt q e).1; omega)
      have HO7 : Hid (w7.ownsRow (w.heap.size + 1) 5 1 (.slice (some ⟨g7, 0, none⟩) (k + 1) cap7) (k + 1) ((pre ++ [x]).flatMap U8.enc)) := Lib.hid (by rw [snoc_flat U8.enc]; exact hown)
      have hne7 : g7 ≠ gb := by
        rcases hwh with h | h
        · simp [Value.ownBlock] at h; omega
        · rw [h]; (first | omega | (simp only [World.size_alloc]; omega))
      have HX7 := Lib.hid (HX.out.kept hgr (.inr (by simp [Value.ownBlock]; omega)))
      have V7 := Lib.hid (V0.out.grown hgr (own_ne HO.out (by omega)))
      have HG7 := Lib.hid (HG.out.grown hgr (own_ne HO.out (by omega)))
      have hgw7 : gb < w7.heap.size := Nat.lt_of_lt_of_le (by (first | omega | (simp only [World.size_alloc]; omega))) hgr.size
      clear hown hgr hwh KN HO hb HX V0 HG
      go_wp2
      go_roundw
      case rel => exact ⟨pre ++ [x], k + 1, g7, cap7, r - 1, by simp [hpl], by omega, by omega, by omega, by go_num, by go_num, HP2, hne7, hgw7, HO7, HX7, V7, HG7, hb7⟩
      case measure => simp [intOf]; omega
    | false =>
      have HPE : Hid (pre = upL F col 16 (row - 1)) := Lib.hid (by
        have h := HP.out
        rw [upL_stop hf] at h
        exact run_end h)
      clear HP
      go_wp2_with fail
      refine (HFU.out r _ HG.out).mono ?_
      rintro e wq ⟨rfl, hdq⟩
      have hd := hdq.bels
      clear hdq
      rw [hf]
      clear hf
      have hgw2 := Nat.lt_of_lt_of_le hgw hd.size
      replace hb := hb.trans (hd.mono hb.size)
      replace HO := Lib.hid (own_below HO.out hd)
      replace HX := Lib.hid (own_below HX.out hd)
      replace V0 := Lib.hid (V0.out.kept hd)
      replace HG := Lib.hid (HG.out.kept hd)
      clear hd
      clear hgw
      have hg1 := Nat.le_of_lt (HO.out.lt g1 rfl).2
      go_wp2_with fail
      go_loopw [8, 10] (fun ov iv wr => ∃ (pr2 : List UInt8) (k2 g2 cap2 : Nat) (r : Int), pr2.length = k2 ∧ k2 ≤ 15 ∧ row + k2 + 1 = r ∧ r ≤ n ∧ iv = .int .i64 r ∧ ov = .slice (some ⟨g2, 0, none⟩) k2 cap2 ∧ Hid (pr2 ++ dnL F col (16 - k2) r = dnL F col 16 (row + 1)) ∧ g2 ≠ g1 ∧ g1 < wr.heap.size ∧ Hid (wr.ownsRow (w.heap.size + 1) 5 1 (.slice (some ⟨g2, 0, none⟩) k2 cap2) k2 (pr2.flatMap U8.enc)) ∧ Hid (wr.ownsRow (w.heap.size + 1) 5 1 (.slice (some ⟨g1, 0, none⟩) k cap) k (pre.flatMap U8.enc)) ∧ Hid (VarAt wr w.heap.size 92 [.string ⟨#[]⟩, .string ⟨#[]⟩]) ∧ Hid (BAt wr g o b) ∧ Below w.heap.size w wr) (fun _ iv _ => ((n : Int) + 1 - intOf iv).toNat)
      case atStart => exact ⟨[], 0, gb, 0, row + 1, rfl, by omega, by omega, by omega, by go_num, rfl, Lib.hid rfl, by omega, (HO.out.lt g1 rfl).2, HX, HO, V0, HG, hb⟩
      case round =>
        clear HO HX V0 HG hb
        obtain ⟨pr2, k2, g2, cap2, r2, hpl2, hk152, hrk2, hrn, rfl, rfl, HP, hne2, hgw, HO, HX, V0, HG, hb⟩ := hrel
        cases hf : fullC (F r2 col) with
        | true =>
          obtain ⟨hin, hr2, hr3⟩ := HIN.out r2 hf
          obtain ⟨j, hj⟩ : ∃ j, 16 - k2 = j + 1 := ⟨15 - k2, by omega⟩
          have HP2 : Hid ((pr2 ++ [F r2 col]) ++ dnL F col (16 - (k2 + 1)) (r2 + 1) = dnL F col 16 (row + 1)) := Lib.hid (by
            have h := HP.out
            rw [hj, dnL_full hf] at h
            rw [show 16 - (k2 + 1) = j from by omega]
            exact run_step h)
          clear hj HP
          go_wp2_with fail
          refine (HFU.out r2 _ HG.out).mono ?_
          rintro e wq ⟨rfl, hdq⟩
          have hd := hdq.bels
          clear hdq
          rw [hf]
          clear hf
          have hgw2 := Nat.lt_of_lt_of_le hgw hd.size
          replace hb := hb.trans (hd.mono hb.size)
          replace HO := Lib.hid (own_below HO.out hd)
          replace HX := Lib.hid (own_below HX.out hd)
          replace V0 := Lib.hid (V0.out.kept hd)
          replace HG := Lib.hid (HG.out.kept hd)
          clear hd
          go_wp2_with fail
          refine (HAT.out r2 _ HG.out hin).mono ?_
          rintro e wq ⟨rfl, hdq⟩
          have hd := hdq.bels
          clear hdq
          clear hgw
          have hgw := Nat.lt_of_lt_of_le hgw2 hd.size
          clear hgw2
          replace hb := hb.trans (hd.mono hb.size)
          replace HO := Lib.hid (own_below HO.out hd)
          replace HX := Lib.hid (own_below HX.out hd)
          replace V0 := Lib.hid (V0.out.kept hd)
          replace HG := Lib.hid (HG.out.kept hd)
          clear hd
          generalize F r2 col = x at *
          have hx : Below wq.heap.size wq (wq.alloc (.cells #[.int .u8 ((x).toNat : Int)] 5)) := (Below.refl _ _).alloc (Nat.le_refl _) _
          have KN := Lib.hid (new_byte wq (x) 5)
          replace HO := Lib.hid (own_below HO.out hx)
          replace HX := Lib.hid (own_below HX.out hx)
          replace V0 := Lib.hid (V0.out.kept hx)
          replace HG := Lib.hid (HG.out.kept hx)
          have hz2 := hb.size
          replace hb := hb.trans (hx.mono hb.size)
          clear hx
          go_wp2_with (at_builtin; go_must (refine wpList_append_lies _ rfl (.tmp 36) (.tmp 41) 152 rfl (w.heap.size + 1) 5 i0 _ 1 1 Tryz.underlying152 hi0 hi1 hi2 hi3 rfl (by decide) _ (k2) ((pr2).flatMap U8.enc) (by rfl) HO.out ⟨wq.heap.size, 0, none⟩ 1 1 (U8.enc (x)) (by rfl) rfl KN.out (u8_one1 (x)) (by decide) ?c1 ?c2 ?c3 _ rfl ?_))
          case c1 => unfold maxLen; omega
          case c2 => omega
          case c3 => (first | omega | (simp only [World.size_alloc]; omega))
          intro g7 cap7 w7 hown hgr hwh hlt7
          have hb7 := hb.grown hgr hb.size (fun q e => by have := (HO.out.lt q e).1; omega)
          have HO7 : Hid (w7.ownsRow (w.heap.size + 1) 5 1 (.slice (some ⟨g7, 0, none⟩) (k2 + 1) cap7) (k2 + 1) ((pr2 ++ [x]).flatMap U8.enc)) := Lib.hid (by rw [snoc_flat U8.enc]; exact hown)
          have hne7 : g7 ≠ g1 := by
            rcases hwh with h | h
            · simp [Value.ownBlock] at h; omega
            · rw [h]; (first | omega | (simp only [World.size_alloc]; omega))
          have HX7 := Lib.hid (HX.out.kept hgr (.inr (by simp [Value.ownBlock]; omega)))
          have V7 := Lib.hid (V0.out.grown hgr (own_ne HO.out (by omega)))
          have HG7 := Lib.hid (HG.out.grown hgr (own_ne HO.out (by omega)))
          have hgw7 : g1 < w7.heap.size := Nat.lt_of_lt_of_le (by (first | omega | (simp only [World.size_alloc]; omega))) hgr.size
          clear hown hgr hwh KN HO hb HX V0 HG
          go_wp2
          go_roundw
          case rel => exact ⟨pr2 ++ [x], k2 + 1, g7, cap7, r2 + 1, by simp [hpl2], by omega, by omega, by omega, by go_num, by go_num, HP2, hne7, hgw7, HO7, HX7, V7, HG7, hb7⟩
          case measure => simp [intOf]; omega
        | false =>
          have HPD : Hid (pr2 = dnL F col 16 (row + 1)) := Lib.hid (by
            have h := HP.out
            rw [dnL_stop hf] at h
            exact run_end h)
          clear HP
          go_wp2_with fail
          refine (HFU.out r2 _ HG.out).mono ?_
          rintro e wq ⟨rfl, hdq⟩
          have hd := hdq.bels
          clear hdq
          rw [hf]
          clear hf
          replace hb := hb.trans (hd.mono hb.size)
          replace HO := Lib.hid (own_below HO.out hd)
          replace HX := Lib.hid (own_below HX.out hd)
          replace V0 := Lib.hid (V0.out.kept hd)
          replace HG := Lib.hid (HG.out.kept hd)
          clear hd
          clear HFU HAT HIN HG LU LD hgw hgw2
          have hU : Hid ((mkB pre).size ≤ 1048576) := Lib.hid (by rw [mkB_size]; omega)
          have hB : Hid ((bk (mkB pre)).size ≤ 1048576) := Lib.hid (by rw [HBL.out, mkB_size]; omega)
          have hD : Hid ((mkB pr2).size ≤ 1048576) := Lib.hid (by rw [mkB_size]; omega)
          have hl1 := Lib.hid hpl
          have hl2 := Lib.hid hpl2
          go_upto_region 11 with fail
          generalize wq = we at *
          have hk : Below we.heap.size we we.drew := (Below.refl _ _).drew
          replace HO := Lib.hid (own_below HO.out hk)
          replace HX := Lib.hid (own_below HX.out hk)
          replace V0 := Lib.hid (V0.out.kept hk)
          replace hb := hb.trans (hk.mono hb.size)
          clear hk
          have v1 := own_bytes HX.out hl1.out.symm
          have v2 := own_bytes HO.out hl2.out.symm
          have q0 := V0.out.cell (i := 0) rfl
          have q1 := V0.out.cell (i := 1) rfl
          have p0 := V0.out.free 0
          have p1 := V0.out.free 1
          go_region_with
            ((first | (go_at_call 169; refine (HSM.out _ _ (by first | exact hB.out | exact hD.out)).mono ?_) | (go_at_call 170; refine (HBK.out _ _ hU.out).mono ?_)); rintro e wq ⟨rfl, hdq⟩; replace HO := Lib.hid (own_below HO.out hdq); replace HX := Lib.hid (own_below HX.out hdq); replace V0 := Lib.hid (V0.out.kept hdq); replace hb := hb.trans (hdq.mono hb.size); clear hdq v1 v2 q0 q1 p0 p1; have v1 := own_bytes HX.out hl1.out.symm; have v2 := own_bytes HO.out hl2.out.symm; have q0 := V0.out.cell (i := 0) rfl; have q1 := V0.out.cell (i := 1) rfl; have p0 := V0.out.free 0; have p1 := V0.out.free 1)
          all_goals
            obtain ⟨o0, k0⟩ := V0.out.set 0 (.string (sm (bk (mkB pre))))
            obtain ⟨o1, k1⟩ := o0.set 1 (.string (sm (mkB pr2)))
            have GG := grownBy_trans k0 k1
            have hb9 := hb.grown GG hb.size (fun q h => by cases h; exact Nat.le_refl _)
            have e0 := o1.cell (i := 0) (v := .string (sm (bk (mkB pre)))) rfl
            have e1 := o1.cell (i := 1) (v := .string (sm (mkB pr2))) rfl
            clear o0 o1 k0 k1 GG v1 v2
            go_wp2
            refine bodyPost_ret (v := .agg #[.string (sm (bk (mkB pre))), .string (sm (mkB pr2))]) (by simp [results, Tryz.results97, go_sem, e0, e1]) rfl ?_
            exact ⟨by rw [HPE.out, HPD.out], hb9⟩
end Go.Proofs.YtoeoijkhlpacdaaGreatDoor
