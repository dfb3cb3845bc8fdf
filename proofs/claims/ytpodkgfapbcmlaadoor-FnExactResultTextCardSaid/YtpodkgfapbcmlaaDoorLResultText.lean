/- The statement FnExactResultText: the program's ResultText gives what the reference's gives. For every result; Go's own table of powers of ten as it is laid. -/
import Derived.Test.YtpodkgfapbcmlaaDoorDoB
namespace Go.Proofs.YtpodkgfapbcmlaaDoor
open Go.ChangeShapes Go.WideShapes Go.ChangeAt Go.RowKit Go.Sort

set_option maxRecDepth 100000 in
set_option maxHeartbeats 2000000 in
theorem lawResultText_any (r : Res) (w : World) (hf : r.fit) (ht : Tab w) :
    Calls Tryd.prog 3 #[.agg #[.string r.a, .string r.b, .int .i64 r.sa, .int .i64 r.sb]] w fun e w' => e = .returned (.bool true) ∧ Below w.heap.size w w' := by
  have hb : Below w.heap.size w (w.alloc (.cells #[.string r.a, .string r.b, .int .i64 r.sa, .int .i64 r.sb] 23)) := (Below.refl _ _).alloc (Nat.le_refl _) _
  have HT := Lib.hid (ht.kept hb)
  have HA := Lib.hid (new_res w r 23)
  have HF := Lib.hid hf
  clear ht hf
  obtain ⟨c0, c1, c2, c3⟩ := HA.out
  rw [Nat.zero_add] at c1 c2 c3
  go_enter Tryd.func3, Tryd.ntmps3
  go_wp2_with fail
  refine (szResult_any r 1048576 _ (by decide) (by decide) HF.out).mono ?_
  rintro e w1 ⟨lf, rfl, hlf, hd⟩
  replace hb := hb.trans (hd.mono hb.size)
  obtain ⟨d0, d1, d2, d3⟩ := HA.out.kept hd
  rw [Nat.zero_add] at d1 d2 d3
  replace HA := Lib.hid (HA.out.kept hd)
  replace HT := Lib.hid (HT.out.kept hd)
  clear hd c0 c1 c2 c3
  have c0 := d0
  have c1 := d1
  have c2 := d2
  have c3 := d3
  clear d0 d1 d2 d3
  rcases hlf with rfl | ⟨hlf, _⟩
  · clear HA HT
    go_wp2
    go_ret
    exact ⟨rfl, hb⟩
  · have hlf' : ¬ lf < 0 := by omega
    go_wp2_with fail
    refine (toResult_any r _).mono ?_
    rintro e w2 ⟨rfl, hd⟩
    replace hb := hb.trans (hd.mono hb.size)
    obtain ⟨d0, d1, d2, d3⟩ := HA.out.kept hd
    rw [Nat.zero_add] at d1 d2 d3
    replace HA := Lib.hid (HA.out.kept hd)
    replace HT := Lib.hid (HT.out.kept hd)
    clear hd c0 c1 c2 c3
    have c0 := d0
    have c1 := d1
    have c2 := d2
    have c3 := d3
    clear d0 d1 d2 d3
    go_wp2_with fail
    refine (specResultText_any r _ HF.out).mono ?_
    rintro e w3 ⟨rfl, hd⟩
    replace hb := hb.trans (hd.mono hb.size)
    obtain ⟨d0, d1, d2, d3⟩ := HA.out.kept hd
    rw [Nat.zero_add] at d1 d2 d3
    replace HA := Lib.hid (HA.out.kept hd)
    replace HT := Lib.hid (HT.out.kept hd)
    clear hd c0 c1 c2 c3
    have c0 := d0
    have c1 := d1
    have c2 := d2
    have c3 := d3
    clear d0 d1 d2 d3
    go_wp2_with fail
    refine (toResult_any r _).mono ?_
    rintro e w4 ⟨rfl, hd⟩
    replace hb := hb.trans (hd.mono hb.size)
    obtain ⟨d0, d1, d2, d3⟩ := HA.out.kept hd
    rw [Nat.zero_add] at d1 d2 d3
    replace HA := Lib.hid (HA.out.kept hd)
    replace HT := Lib.hid (HT.out.kept hd)
    clear hd c0 c1 c2 c3
    have c0 := d0
    have c1 := d1
    have c2 := d2
    have c3 := d3
    clear d0 d1 d2 d3
    go_wp2_with fail
    refine (ResultText_any r _ HF.out HT.out).mono ?_
    rintro e w5 ⟨rfl, hd⟩
    generalize resultText r = tx at *
    clear HA HT c0 c1 c2 c3
    go_wp2
    go_ret
    exact ⟨rfl, hb.trans (hd.mono hb.size)⟩
end Go.Proofs.YtpodkgfapbcmlaaDoor
