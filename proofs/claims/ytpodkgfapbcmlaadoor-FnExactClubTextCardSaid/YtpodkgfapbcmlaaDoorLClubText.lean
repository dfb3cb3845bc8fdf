/- The statement FnExactClubText: the program's ClubText gives what the reference's gives. For every club; Go's own table of powers of ten as it is laid. -/
import Derived.Test.YtpodkgfapbcmlaaDoorDoC
import Derived.Test.YtpodkgfapbcmlaaDoorClubT
import Derived.Deep.RegionWith
namespace Go.Proofs.YtpodkgfapbcmlaaDoor
open Go.ChangeShapes Go.WideShapes Go.ChangeAt Go.RowKit Go.Sort

set_option maxHeartbeats 2000000 in
theorem lawClubText_any (ms : List Mem) (a : Option Addr) (cap : Nat) (w : World) (hm : SliceAt w 2 Mem.enc a ms) (hl : ms.length ≤ 9223372036854775807) (hf : MemsFit ms) (ht : Tab w) :
    Calls Tryd.prog 4 #[.agg #[.slice a ms.length cap]] w fun e w' => e = .returned (.bool true) ∧ Below w.heap.size w w' := by
  have HM := Lib.hid hm; clear hm
  have hb0 : Below w.heap.size w (w.alloc (.cells #[.slice a ms.length cap] 31)) := (Below.refl _ _).alloc (Nat.le_refl _) _
  have hc0 := cell_new0 w #[.slice a ms.length cap] 31 (i := 0) (v := .slice a ms.length cap) rfl
  have HT := Lib.hid ht
  clear ht
  go_enter Tryd.func4, Tryd.ntmps4
  go_wp2_with fail
  refine (szClub_any ms a cap 1048576 _ (HM.out.kept hb0) hl hf (by omega) (by omega)).mono ?_
  rintro e w1 ⟨r, rfl, h2, hd1⟩
  have hb1 := hb0.trans (hd1.mono hb0.size)
  have hc1 := cell_kept hc0 hd1
  rcases h2 with rfl | ⟨h20, h2⟩
  · go_wp2
    go_ret
    exact ⟨rfl, hb1⟩
  · have h3 : ¬ r < 0 := by omega
    have hl2 : ms.length ≤ 1048576 := by omega
    clear h2 hl hc0 hd1 hb0
    go_wp2_with fail
    refine (toClub_any ms a cap _ (HM.out.kept hb1) hl2).mono ?_
    rintro e w2 ⟨g1, rfl, ho1, hd2⟩
    have hb2 := hb1.trans (hd2.mono hb1.size)
    have hc2 := cell_kept hc1 hd2
    have S1 := Lib.hid (own_slice Mem.enc_len ho1 rfl)
    clear ho1 hd2 hc1 hb1
    go_wp2_with fail
    refine (specClubText_any ms _ _ _ S1.out (by omega) hf).mono ?_
    rintro e w3 ⟨rfl, hd3⟩
    have hb3 := hb2.trans (hd3.mono hb2.size)
    have hc3 := cell_kept hc2 hd3
    clear hd3 hc2 hb2 S1
    go_wp2_with fail
    refine (toClub_any ms a cap _ (HM.out.kept hb3) hl2).mono ?_
    rintro e w4 ⟨g2, rfl, ho2, hd4⟩
    have hb4 := hb3.trans (hd4.mono hb3.size)
    have hc4 := cell_kept hc3 hd4
    have S2 := Lib.hid (own_slice Mem.enc_len ho2 rfl)
    clear ho2 hd4 hc3 hb3
    go_wp2_with fail
    have hb5 : Below w.heap.size w (w4.alloc (.cells #[.slice (some ⟨g2, 0, none⟩) ms.length ms.length] 36)) := hb4.alloc hb4.size _
    have hx5 : Below w4.heap.size w4 (w4.alloc (.cells #[.slice (some ⟨g2, 0, none⟩) ms.length ms.length] 36)) := (Below.refl _ _).alloc (Nat.le_refl _) _
    have hc5 := cell_kept hc4 hx5
    have hy5 := cell_new0 w4 #[.slice (some ⟨g2, 0, none⟩) ms.length ms.length] 36 (i := 0) (v := .slice (some ⟨g2, 0, none⟩) ms.length ms.length) rfl
    have S3 := Lib.hid (S2.out.kept hx5)
    generalize w4.alloc (.cells #[.slice (some ⟨g2, 0, none⟩) ms.length ms.length] 36) = w5 at *
    refine (ClubText_any ms _ _ _ S3.out (by omega) hf (HT.out.kept hb5)).mono ?_
    rintro e w6 ⟨rfl, hd6⟩
    have hb6 := hb5.trans (hd6.mono hb5.size)
    have hc6 := cell_kept hc5 hd6
    have hy6 := cell_kept hy5 hd6
    have S4 := Lib.hid (S3.out.kept hd6)
    generalize clubText ms = tx at *
    clear hd6 hc5 hy5 S3 S2 hb5 hc4 hb4 hx5
    go_wp2
    have hb7 : Below w.heap.size w w6.drew := hb6.drew
    have S7 := Lib.hid (S4.out.kept ((Below.refl w6.heap.size w6).drew))
    go_region_with (first | (go_at_call 13; refine (toClub_any ms a cap _ (HM.out.kept hb7) hl2).mono ?_; rintro e w8 ⟨g3, rfl, ho3, hd8⟩; have S8 := Lib.hid (own_slice Mem.enc_len ho3 rfl); have S9 := Lib.hid (S7.out.kept hd8); have hb8 := hb7.trans (hd8.mono hb7.size); have hy8 := cell_kept (w := w6.drew) hy6 hd8; clear ho3 hd8) | (go_at_call 15; refine (eqClub_any ms _ _ _ _ _ S9.out S8.out (by omega)).mono ?_; rintro e w9 ⟨rfl, hd9⟩; have hb9 := hb8.trans (hd9.mono hb8.size); clear hd9))
    all_goals
      go_wp2
      go_ret
      exact ⟨rfl, hb9⟩
end Go.Proofs.YtpodkgfapbcmlaaDoor
