/- Contracts: RatingOf (program and reference). -/
import Derived.Test.YtlbnjdgfggiifaaGreatDoorClub
import Derived.Handy
namespace Go.Proofs.YtlbnjdgfggiifaaGreatDoor
open Go.ChangeShapes Go.WideShapes Go.ChangeAt Go.RowKit Go.Sort

theorem ratingOf_bad {ms : List Mem} {nm : ByteArray} (h : clubOk ms = false) : ratingOf ms nm = (0, 1) := by simp [ratingOf, h]
theorem ratingOf_none {ms : List Mem} {nm : ByteArray} (h : clubOk ms = true) (h2 : findMem nm ms < 0) : ratingOf ms nm = (0, 3) := by simp [ratingOf, h, h2]
theorem ratingOf_some {ms : List Mem} {nm : ByteArray} (h : clubOk ms = true) {k : Nat} (hk : k < ms.length) (h2 : findMem nm ms = k) : ratingOf ms nm = (ms[k].rating, 0) := by
  have h3 : ¬ ((k : Int) < 0) := by omega
  simp only [ratingOf, h, h2, if_neg h3, Bool.true_eq_false, if_false, Int.toNat_natCast]
  rw [List.getD_eq_getElem?_getD, List.getElem?_eq_getElem hk]
  rfl
def RatePost (w : World) (p : Int × Int) (e : Ending) (w' : World) : Prop := e = .returned (.tuple #[.int .i64 p.1, .int .i64 p.2]) ∧ Below w.heap.size w w'

set_option maxHeartbeats 1000000 in
theorem specRatingOf_any (ms : List Mem) (nm : ByteArray) (a : Option Addr) (cap : Nat) (w : World) (hm : SliceAt w 2 Mem.enc a ms) (hl : ms.length ≤ 1048576) (hf : MemsFit ms) :
    Calls Tryz.prog 17 #[.agg #[.slice a ms.length cap], .string nm] w (RatePost w (ratingOf ms nm)) := by
  have HM := Lib.hid hm; clear hm
  have hb0 : Below w.heap.size w (w.alloc (.cells #[.slice a ms.length cap] 26)) := (Below.refl _ _).alloc (Nat.le_refl _) _
  have hc0 := cell_new0 w #[.slice a ms.length cap] 26 (i := 0) (v := .slice a ms.length cap) rfl
  cases hv : clubOk ms with
  | false =>
    have HR := Lib.hid (ratingOf_bad (nm := nm) hv)
    have HV := Lib.hid hv; clear hv
    go_enter Tryz.func17, Tryz.ntmps17
    go_wp2_with fail
    refine (l26Ok_any ms _ _ a cap _ hc0 (HM.out.kept hb0) (by omega) hf).mono ?_
    rintro e w1 ⟨rfl, hd⟩
    rw [HV.out]
    go_wp2
    go_ret2
    exact ⟨by rw [HR.out]; rfl, hb0.trans ((hd.below _).mono hb0.size)⟩
  | true =>
    rcases findMem_bound nm ms with h | ⟨h1, h2⟩
    · have HR := Lib.hid (ratingOf_none (nm := nm) hv (by omega))
      have HV := Lib.hid hv; clear hv
      have H := Lib.hid h; clear h
      go_enter Tryz.func17, Tryz.ntmps17
      go_wp2_with fail
      refine (l26Ok_any ms _ _ a cap _ hc0 (HM.out.kept hb0) (by omega) hf).mono ?_
      rintro e w1 ⟨rfl, hd⟩
      rw [HV.out]
      have hb1 := hb0.trans ((hd.below _).mono hb0.size)
      go_wp2_with fail
      refine (l26Find_any ms nm _ _ a cap _ ((hd.cell _).trans hc0) (HM.out.kept hb1) (by omega)).mono ?_
      rintro e w2 ⟨rfl, rfl⟩
      rw [H.out]
      go_wp2
      go_ret2
      exact ⟨by rw [HR.out]; rfl, hb1⟩
    · obtain ⟨k, hk⟩ := Int.eq_ofNat_of_zero_le h1
      have hkl : k < ms.length := by omega
      have HR := Lib.hid (ratingOf_some (nm := nm) hv hkl hk)
      have HV := Lib.hid hv; clear hv
      have H := Lib.hid hk; clear hk h1 h2
      go_enter Tryz.func17, Tryz.ntmps17
      go_wp2_with fail
      refine (l26Ok_any ms _ _ a cap _ hc0 (HM.out.kept hb0) (by omega) hf).mono ?_
      rintro e w1 ⟨rfl, hd⟩
      rw [HV.out]
      have hb1 := hb0.trans ((hd.below _).mono hb0.size)
      have hc1 := (hd.cell ⟨w.heap.size, 0, none⟩).trans hc0
      go_wp2_with fail
      refine (l26Find_any ms nm _ _ a cap _ hc1 (HM.out.kept hb1) (by omega)).mono ?_
      rintro e w2 ⟨rfl, rfl⟩
      rw [H.out]
      obtain ⟨mb, mo, rfl, hc⟩ := (HM.out.kept hb1).open hkl
      have hcr := hc k hkl 1 _ rfl
      clear hc
      go_wp2
      go_ret2
      exact ⟨by rw [HR.out]; rfl, hb1⟩

set_option maxHeartbeats 1000000 in
theorem RatingOf_any (ms : List Mem) (nm : ByteArray) (a : Option Addr) (cap : Nat) (w : World) (hm : SliceAt w 2 Mem.enc a ms) (hl : ms.length ≤ 1048576) (hf : MemsFit ms) :
    Calls Tryz.prog 16 #[.agg #[.slice a ms.length cap], .string nm] w (RatePost w (ratingOf ms nm)) := by
  have HM := Lib.hid hm; clear hm
  have hb0 : Below w.heap.size w (w.alloc (.cells #[.slice a ms.length cap] 26)) := (Below.refl _ _).alloc (Nat.le_refl _) _
  have hc0 := cell_new0 w #[.slice a ms.length cap] 26 (i := 0) (v := .slice a ms.length cap) rfl
  cases hv : clubOk ms with
  | false =>
    have HR := Lib.hid (ratingOf_bad (nm := nm) hv)
    have HV := Lib.hid hv; clear hv
    go_enter Tryz.func16, Tryz.ntmps16
    go_wp2_with fail
    refine (ValidClub_any ms a cap _ (HM.out.kept hb0) (by omega) hf).mono ?_
    rintro e w1 ⟨rfl, hd⟩
    rw [HV.out]
    go_wp2
    go_ret2
    exact ⟨by rw [HR.out]; rfl, hb0.trans (hd.mono hb0.size)⟩
  | true =>
    rcases findMem_bound nm ms with h | ⟨h1, h2⟩
    · have HR := Lib.hid (ratingOf_none (nm := nm) hv (by omega))
      have HV := Lib.hid hv; clear hv
      have H := Lib.hid h; clear h
      go_enter Tryz.func16, Tryz.ntmps16
      go_wp2_with fail
      refine (ValidClub_any ms a cap _ (HM.out.kept hb0) (by omega) hf).mono ?_
      rintro e w1 ⟨rfl, hd⟩
      rw [HV.out]
      have hb1 := hb0.trans (hd.mono hb0.size)
      have hc1 := cell_kept hc0 hd
      go_wp2_with fail
      refine (member_any ms nm a cap _ (HM.out.kept hb1) (by omega)).mono ?_
      rintro e w2 ⟨rfl, hd2⟩
      rw [H.out]
      go_wp2
      go_ret2
      exact ⟨by rw [HR.out]; rfl, hb1.trans (hd2.mono hb1.size)⟩
    · obtain ⟨k, hk⟩ := Int.eq_ofNat_of_zero_le h1
      have hkl : k < ms.length := by omega
      have HR := Lib.hid (ratingOf_some (nm := nm) hv hkl hk)
      have HV := Lib.hid hv; clear hv
      have H := Lib.hid hk; clear hk h1 h2
      go_enter Tryz.func16, Tryz.ntmps16
      go_wp2_with fail
      refine (ValidClub_any ms a cap _ (HM.out.kept hb0) (by omega) hf).mono ?_
      rintro e w1 ⟨rfl, hd⟩
      rw [HV.out]
      have hb1 := hb0.trans (hd.mono hb0.size)
      have hc1 := cell_kept hc0 hd
      go_wp2_with fail
      refine (member_any ms nm a cap _ (HM.out.kept hb1) (by omega)).mono ?_
      rintro e w2 ⟨rfl, hd2⟩
      rw [H.out]
      have hb2 := hb1.trans (hd2.mono hb1.size)
      have hc2 := cell_kept hc1 hd2
      obtain ⟨mb, mo, rfl, hc⟩ := (HM.out.kept hb2).open hkl
      have hcr := hc k hkl 1 _ rfl
      clear hc
      go_wp2
      go_ret2
      exact ⟨by rw [HR.out]; rfl, hb2⟩
end Go.Proofs.YtlbnjdgfggiifaaGreatDoor
