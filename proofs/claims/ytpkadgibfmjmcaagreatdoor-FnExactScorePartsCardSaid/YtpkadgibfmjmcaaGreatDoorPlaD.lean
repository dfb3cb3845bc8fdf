/- Contracts: the reference's words across. For valid boards. -/
import Derived.Test.YtpkadgibfmjmcaaGreatDoorPlaC
namespace Go.Proofs.YtpkadgibfmjmcaaGreatDoor
open Go.ChangeShapes Go.WideShapes Go.ChangeAt Go.RowKit Go.Sort

theorem take_snoc {W : List UInt8} {j : Nat} (h : j < W.length) {x : UInt8} (hx : W[j] = x) : W.take (j + 1) = W.take j ++ [x] := by
  rw [List.take_succ_eq_append_getElem h, hx]
set_option maxRecDepth 100000 in
set_option maxHeartbeats 4000000 in
theorem l12Cross_any (f : Brd) (n : Nat) (row col : Int) (x : UInt8) (g o : Nat) (w : World) (hb0 : f.Good n) (hg : BAt w g o f) (hr0 : 0 ≤ row) (hr1 : row < n) :
    Calls Tryz.prog 97 #[.pointer (some ⟨g, o, none⟩), .int .i64 row, .int .i64 col, .int .u8 (x.toNat : Int)] w fun e w' => (∃ z : Int, e = .returned (.tuple #[.string (mkB (crossW f.cell row col x)), .int .i64 z])) ∧ Below w.heap.size w w' := by
  obtain ⟨i0, hi0, hi1, hi2, hi3⟩ := info_parts infoByte
  have hlt := hg.lt
  have hn15 := hb0.hi
  have HFU : Hid (∀ r W, BAt W g o f → Calls Tryz.prog 155 #[.pointer (some ⟨g, o, none⟩), .int .i64 r, .int .i64 col] W fun e w' => e = .returned (.bool (fullC (f.cell r col))) ∧ Drew W w') := Lib.hid (fun r W h => l11Full_any f n r col g o W hb0 h)
  have HAT : Hid (∀ r W, BAt W g o f → f.inB r col = true → Calls Tryz.prog 156 #[.pointer (some ⟨g, o, none⟩), .int .i64 r, .int .i64 col] W fun e w' => e = .returned (.int .u8 ((f.cell r col).toNat : Int)) ∧ Drew W w') := Lib.hid (fun r W h hi => l11At_any f n r col g o W hb0 h hi)
  have HIN : Hid (∀ r, fullC (f.cell r col) = true → f.inB r col = true ∧ 0 ≤ r ∧ r < n) := Lib.hid (fun r h => by
    have h1 := hb0.full_in h
    exact ⟨h1, (hb0.inB.1 h1).1⟩)
  have hu := hb0.up_le (c := col) (r := row - 1) 16 (by omega)
  have hd0 := hb0.dn_le (c := col) (r := row + 1) 16 (by omega)
  have HU1 : Hid (∀ j : Nat, j < (upL f.cell col 16 (row - 1)).length → fullC (f.cell (row - 1 - j) col) = true) := Lib.hid (fun j h => (upL_at (F := f.cell) (c := col) 16 (row - 1) j h).2)
  have HU2 := Lib.hid (upL_end (F := f.cell) (c := col) 16 (row - 1))
  have HD2 := Lib.hid (dnL_end (F := f.cell) (c := col) 16 (row + 1))
  have HWL := Lib.hid (crossW_length f.cell row col x)
  have HW1 := Lib.hid (fun j h h2 => crossW_lo (F := f.cell) (R := row) (C := col) (x := x) (j := j) h h2)
  have HW2 := Lib.hid (fun h2 => crossW_mid (F := f.cell) (R := row) (C := col) (x := x) h2)
  have HW3 := Lib.hid (fun j h h2 => crossW_hi (F := f.cell) (R := row) (C := col) (x := x) (j := j) h h2)
  clear hb0
  generalize hux : (upL f.cell col 16 (row - 1)).length = u at *
  generalize hdx : (dnL f.cell col 16 (row + 1)).length = d at *
  generalize crossW f.cell row col x = W at *
  clear hux hdx
  generalize f.cell = F at *
  have hWl : W.length = u + 1 + d := HWL.out
  have hb : Below w.heap.size w w := Below.refl _ _
  have HG := Lib.hid hg
  clear hg
  go_enter Tryz.func97, Tryz.ntmps97
  go_wp2_with fail
  go_loopw [10] (fun iv wr => ∃ (j : Nat) (r : Int), j ≤ u ∧ r + j = row ∧ iv = .int .i64 r ∧ Hid (BAt wr g o f) ∧ Below w.heap.size w wr) (fun iv _ => (intOf iv).toNat)
  case atStart => exact ⟨0, row, Nat.zero_le _, by omega, rfl, HG, hb⟩
  case round =>
    clear HG hb
    obtain ⟨j, r, hj, hrj, rfl, HG, hb⟩ := hrel
    by_cases hju : j < u
    · have hf : fullC (F (r - 1) col) = true := by
        have := HU1.out j hju
        rwa [show row - 1 - (j : Int) = r - 1 from by omega] at this
      have hf2 := (HIN.out _ hf).2
      go_wp2_with fail
      refine (HFU.out (r - 1) _ HG.out).mono ?_
      rintro e wq ⟨rfl, hdq⟩
      have hd := hdq.bels
      clear hdq
      rw [hf]
      clear hf
      replace hb := hb.trans (hd.mono hb.size)
      replace HG := Lib.hid (HG.out.kept hd)
      clear hd
      go_wp2
      go_roundw
      case rel => exact ⟨j + 1, r - 1, by omega, by omega, by go_num, HG, hb⟩
      case measure => simp [intOf]; omega
    · obtain rfl : j = u := by omega
      have hf : fullC (F (r - 1) col) = false := by
        have := HU2.out (by omega)
        rwa [show row - 1 - (j : Int) = r - 1 from by omega] at this
      go_wp2_with fail
      refine (HFU.out (r - 1) _ HG.out).mono ?_
      rintro e wq ⟨rfl, hdq⟩
      have hd := hdq.bels
      clear hdq
      rw [hf]
      clear hf
      replace hb := hb.trans (hd.mono hb.size)
      replace HG := Lib.hid (HG.out.kept hd)
      clear hd
      have HO : Hid ((wq.alloc (.cells #[] 5)).ownsRow w.heap.size 5 1 (.slice (some ⟨wq.heap.size, 0, none⟩) 0 0) 0 ((W.take 0).flatMap U8.enc)) := Lib.hid (World.ownsRow_made (base := w.heap.size) (e := 5) (size := 1) wq #[] 0 hb.size (by unfold maxLen; omega) rfl)
      have hx : Below wq.heap.size wq (wq.alloc (.cells #[] 5)) := (Below.refl _ _).alloc (Nat.le_refl _) _
      replace hb := hb.trans (hx.mono hb.size)
      replace HG := Lib.hid (HG.out.kept hx)
      clear hx
      go_wp2_with fail
      go_loopw [11, 12] (fun ov iv wr => ∃ (k g1 cap : Nat) (r : Int), k ≤ W.length ∧ r + j = row + k ∧ iv = .int .i64 r ∧ ov = .slice (some ⟨g1, 0, none⟩) k cap ∧ Hid (wr.ownsRow w.heap.size 5 1 (.slice (some ⟨g1, 0, none⟩) k cap) k ((W.take k).flatMap U8.enc)) ∧ Hid (BAt wr g o f) ∧ Below w.heap.size w wr) (fun _ iv _ => (row + 17 - intOf iv).toNat)
      case atStart => exact ⟨0, _, 0, r, Nat.zero_le _, by omega, rfl, rfl, HO, HG, hb⟩
      case round =>
        clear HO HG hb hrj
        obtain ⟨k, g1, cap, r, hk, hrk, rfl, rfl, HO, HG, hb⟩ := hrel
        by_cases hkj : k = j
        · subst hkj
          obtain rfl : r = row := by omega
          have hkl : k < W.length := by omega
          have HTK : Hid (W.take (k + 1) = W.take k ++ [x]) := Lib.hid (take_snoc hkl (HW2.out hkl))
          obtain ⟨wq, hwq⟩ : ∃ wq : World, wq = wr := ⟨_, rfl⟩
          rw [← hwq] at HO HG hb ⊢
          clear hwq
          have hd : Below wq.heap.size wq (wq.alloc (.cells #[.int .u8 ((x).toNat : Int)] 5)) := (Below.refl _ _).alloc (Nat.le_refl _) _
          have KN := Lib.hid (new_byte wq (x) 5)
          have hz2 := hb.size
          replace hb := hb.trans (hd.mono hb.size)
          replace HO := Lib.hid (own_below HO.out hd)
          replace HG := Lib.hid (HG.out.kept hd)
          clear hd
          go_wp2_with (at_builtin; go_must (refine wpList_append_lies _ rfl (.tmp 37) (.tmp 39) 141 rfl w.heap.size 5 i0 _ 1 1 Tryz.underlying141 hi0 hi1 hi2 hi3 rfl (by decide) _ (k) ((W.take k).flatMap U8.enc) (by rfl) HO.out ⟨wq.heap.size, 0, none⟩ 1 1 (U8.enc (x)) (by rfl) rfl KN.out (u8_one1 (x)) (by decide) ?c1 ?c2 ?c3 _ rfl ?_))
          case c1 => unfold maxLen; omega
          case c2 => omega
          case c3 => (first | omega | (simp only [World.size_alloc]; omega))
          intro g7 cap7 w7 hown hgr hwh hlt7
          have hb7 := hb.grown hgr hb.size (fun q e => by have := (HO.out.lt q e).1; omega)
          have HO7 : Hid (w7.ownsRow w.heap.size 5 1 (.slice (some ⟨g7, 0, none⟩) (k + 1) cap7) (k + 1) ((W.take (k + 1)).flatMap U8.enc)) := Lib.hid (by rw [HTK.out, snoc_flat U8.enc]; exact hown)
          have HG7 := Lib.hid (HG.out.grown hgr (own_ne HO.out hlt))
          clear hown hgr hwh KN HO hb HG HTK
          go_wp2
          go_roundw
          case rel => exact ⟨k + 1, g7, cap7, r + 1, by omega, by omega, by go_num, by go_num, HO7, HG7, hb7⟩
          case measure => simp [intOf]; omega
        · by_cases hkl : k < W.length
          · have hne : (r == row) = false := by simp; omega
            have hwk : W[k] = F r col ∧ fullC (F r col) = true := by
              by_cases h1 : k < j
              · have := HW1.out k h1 hkl
                rwa [show row - (j : Int) + k = r from by omega] at this
              · have := HW3.out k (by omega) hkl
                rwa [show row - (j : Int) + k = r from by omega] at this
            have hf2 := HIN.out _ hwk.2
            have HTK : Hid (W.take (k + 1) = W.take k ++ [F r col]) := Lib.hid (take_snoc hkl hwk.1)
            have hf := hwk.2
            clear hwk
            go_wp2_with fail
            refine (HFU.out r _ HG.out).mono ?_
            rintro e wq ⟨rfl, hdq⟩
            have hd := hdq.bels
            clear hdq
            rw [hf]
            clear hf
            replace hb := hb.trans (hd.mono hb.size)
            replace HO := Lib.hid (own_below HO.out hd)
            replace HG := Lib.hid (HG.out.kept hd)
            clear hd
            go_wp2_with fail
            refine (HAT.out r _ HG.out hf2.1).mono ?_
            rintro e wq ⟨rfl, hdq⟩
            have hd := hdq.bels
            clear hdq
            replace hb := hb.trans (hd.mono hb.size)
            replace HO := Lib.hid (own_below HO.out hd)
            replace HG := Lib.hid (HG.out.kept hd)
            clear hd
            generalize F r col = y at *
            have hd : Below wq.heap.size wq (wq.alloc (.cells #[.int .u8 ((y).toNat : Int)] 5)) := (Below.refl _ _).alloc (Nat.le_refl _) _
            have KN := Lib.hid (new_byte wq (y) 5)
            have hz2 := hb.size
            replace hb := hb.trans (hd.mono hb.size)
            replace HO := Lib.hid (own_below HO.out hd)
            replace HG := Lib.hid (HG.out.kept hd)
            clear hd
            go_wp2_with (at_builtin; go_must (refine wpList_append_lies _ rfl (.tmp 41) (.tmp 46) 141 rfl w.heap.size 5 i0 _ 1 1 Tryz.underlying141 hi0 hi1 hi2 hi3 rfl (by decide) _ (k) ((W.take k).flatMap U8.enc) (by rfl) HO.out ⟨wq.heap.size, 0, none⟩ 1 1 (U8.enc (y)) (by rfl) rfl KN.out (u8_one1 (y)) (by decide) ?c1 ?c2 ?c3 _ rfl ?_))
            case c1 => unfold maxLen; omega
            case c2 => omega
            case c3 => (first | omega | (simp only [World.size_alloc]; omega))
            intro g7 cap7 w7 hown hgr hwh hlt7
            have hb7 := hb.grown hgr hb.size (fun q e => by have := (HO.out.lt q e).1; omega)
            have HO7 : Hid (w7.ownsRow w.heap.size 5 1 (.slice (some ⟨g7, 0, none⟩) (k + 1) cap7) (k + 1) ((W.take (k + 1)).flatMap U8.enc)) := Lib.hid (by rw [HTK.out, snoc_flat U8.enc]; exact hown)
            have HG7 := Lib.hid (HG.out.grown hgr (own_ne HO.out hlt))
            clear hown hgr hwh KN HO hb HG HTK
            go_wp2
            go_roundw
            case rel => exact ⟨k + 1, g7, cap7, r + 1, by omega, by omega, by go_num, by go_num, HO7, HG7, hb7⟩
            case measure => simp [intOf]; omega
          · have hne : (r == row) = false := by simp; omega
            have hf : fullC (F r col) = false := by
              have := HD2.out (by omega)
              rwa [show row + 1 + (d : Int) = r from by omega] at this
            have hO := HO.out
            rw [List.take_of_length_le (by omega)] at hO
            have HOL := Lib.hid hO
            clear hO HO
            go_wp2_with fail
            refine (HFU.out r _ HG.out).mono ?_
            rintro e wq ⟨rfl, hdq⟩
            have hd := hdq.bels
            clear hdq
            rw [hf]
            clear hf
            replace hb := hb.trans (hd.mono hb.size)
            replace HOL := Lib.hid (own_below HOL.out hd)
            replace HG := Lib.hid (HG.out.kept hd)
            clear hd
            have hcv := own_bytes HOL.out (show k = W.length by omega)
            go_wp2
            go_ret2
            exact ⟨⟨_, rfl⟩, hb⟩
end Go.Proofs.YtpkadgibfmjmcaaGreatDoor
