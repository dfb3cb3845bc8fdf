/- The statement FnExactReadResult: the program's ReadResult gives what the reference's gives. For every text; Go's own tables, MaxLen and strconv's two errors as they are laid. -/
import Derived.Test.YtpodkgfapbcmlaaDoorDoF
namespace Go.Proofs.YtpodkgfapbcmlaaDoor
open Go.ChangeShapes Go.WideShapes Go.ChangeAt Go.RowKit Go.Sort

set_option maxRecDepth 100000 in
set_option maxHeartbeats 2000000 in
theorem lawReadResult_any (s : ByteArray) (w : World) (he : Env w) :
    Calls Tryd.prog 5 #[.string s] w fun e w' => e = .returned (.bool true) ∧ Below w.heap.size w w' := by
  have hb : Below w.heap.size w w := Below.refl _ _
  have HENV := Lib.hid he
  clear he
  go_enter Tryd.func5, Tryd.ntmps5
  by_cases hs : s.size ≤ 1048576
  · have hlt : ¬ (1048576 : Int) < s.size := by omega
    go_wp2_with fail
    refine (specReadResult_any s _ hs).mono ?_
    rintro e w1 ⟨rfl, hd⟩
    replace hb := hb.trans (hd.mono hb.size)
    replace HENV := Lib.hid (HENV.out.kept hd)
    clear hd
    have HR := Lib.hid (readRes_eq s.data.toList)
    generalize specRes s.data.toList = o at *
    generalize hro : resOf o = r at *
    generalize hko : o.isSome = k at *
    have hd : Below w1.heap.size w1 (w1.alloc (.cells #[.string r.a, .string r.b, .int .i64 r.sa, .int .i64 r.sb] 26)) := (Below.refl _ _).alloc (Nat.le_refl _) _
    have V0 := Lib.hid (VarAt.new w1 26 [.string r.a, .string r.b, .int .i64 r.sa, .int .i64 r.sb])
    replace hb := hb.trans (hd.mono hb.size)
    replace HENV := Lib.hid (HENV.out.kept hd)
    clear hd
    go_wp2_with fail
    refine (ReadResult_any s _ HENV.out hs).mono ?_
    rintro e w2 ⟨rfl, hd⟩
    rw [HR.out]
    rw [hro, hko]
    clear HR hro hko
    replace hb := hb.trans (hd.mono hb.size)
    replace V0 := Lib.hid (V0.out.kept hd)
    clear hd HENV
    have hd : Below w2.heap.size w2 (w2.alloc (.cells #[.string r.a, .string r.b, .int .i64 r.sa, .int .i64 r.sb] 26)) := (Below.refl _ _).alloc (Nat.le_refl _) _
    have V1 := Lib.hid (VarAt.new w2 26 [.string r.a, .string r.b, .int .i64 r.sa, .int .i64 r.sb])
    replace hb := hb.trans (hd.mono hb.size)
    replace V0 := Lib.hid (V0.out.kept hd)
    clear hd
    have c0 := V0.out.cell (i := 0) rfl
    have c1 := V0.out.cell (i := 1) rfl
    have c2 := V0.out.cell (i := 2) rfl
    have c3 := V0.out.cell (i := 3) rfl
    have d0 := V1.out.cell (i := 0) rfl
    have d1 := V1.out.cell (i := 1) rfl
    have d2 := V1.out.cell (i := 2) rfl
    have d3 := V1.out.cell (i := 3) rfl
    go_wp2_with fail
    refine (eqResult_any r _).mono ?_
    rintro e w3 ⟨rfl, hd⟩
    replace hb := hb.trans (hd.mono hb.size)
    clear hd
    cases k <;> (go_wp2; go_ret; exact ⟨rfl, hb⟩)
  · have hlt : (1048576 : Int) < s.size := by omega
    go_wp2
    go_ret
    exact ⟨rfl, hb⟩
end Go.Proofs.YtpodkgfapbcmlaaDoor
