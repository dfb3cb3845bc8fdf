/- Contract: the value of letters: the program. -/
import Derived.Test.YtjdcdhhbgijaoaaGreatDoorFpP
namespace Go.Proofs.YtjdcdhhbgijaoaaGreatDoor
open Go.ChangeShapes Go.WideShapes Go.ChangeAt Go.RowKit Go.Sort

/-- the value of letters -/
def sumOut (x : Tls) (s : ByteArray) : Int := if x.ok then x.sum s else 0
set_option maxRecDepth 100000 in
set_option maxHeartbeats 4000000 in
theorem LettersValue_any (x : Tls) (q : TlA) (s : ByteArray) (w : World) (ha : x.At q w) (hft : x.fit) (hxs : x.letters.size ≤ 1048576) (hs : s.size ≤ 1048576) :
    Calls Tryz.prog 34 #[.agg #[.string x.letters, .slice q.values.a x.values.length q.values.c, .slice q.counts.a x.counts.length q.counts.c, .int .i64 x.blanks], .string s] w fun e w' => e = .returned (.int .i64 (sumOut x s)) ∧ Below w.heap.size w w' := by
  have hb : Below w.heap.size w (w.alloc (.cells #[.string x.letters, .slice q.values.a x.values.length q.values.c, .slice q.counts.a x.counts.length q.counts.c, .int .i64 x.blanks] 44)) := (Below.refl _ _).alloc (Nat.le_refl _) _
  have VT := Lib.hid (VarAt.new w 44 [.string x.letters, .slice q.values.a x.values.length q.values.c, .slice q.counts.a x.counts.length q.counts.c, .int .i64 x.blanks])
  have HA := Lib.hid (ha.kept hb)
  clear ha
  have HVT := Lib.hid (fun W h => ValidTiles_any x q W h hft hxs)
  have HLV := Lib.hid (fun W h (hx : x.ok = true) => lettersValue_any x q s W h (Tls.good hx) hs)
  cases hx : x.ok with
  | false =>
    have hz : sumOut x s = 0 := by unfold sumOut; rw [hx]; rfl
    rw [hz]
    rw [hx] at HVT
    go_enter Tryz.func34, Tryz.ntmps34
    go_upto_region 1 with fail
    generalize w.alloc (.cells #[.string x.letters, .slice q.values.a x.values.length q.values.c, .slice q.counts.a x.counts.length q.counts.c, .int .i64 x.blanks] 44) = w1 at *
    have t0 := VT.out.cell (i := 0) rfl
    have t1 := VT.out.cell (i := 1) rfl
    have t2 := VT.out.cell (i := 2) rfl
    have t3 := VT.out.cell (i := 3) rfl
    go_wp2_with fail
    refine (HVT.out _ HA.out).mono ?_
    rintro e w3 ⟨rfl, hd⟩
    have hb2 := hb.trans (hd.mono hb.size)
    clear hd t0 t1 t2 t3
    go_wp2
    go_ret
    exact ⟨rfl, hb2⟩
  | true =>
    have hz : sumOut x s = x.sum s := by unfold sumOut; rw [hx]; rfl
    rw [hz]
    rw [hx] at HVT
    have HL2 := Lib.hid (fun W h => HLV.out W h hx)
    clear HLV
    generalize x.sum s = v at *
    go_enter Tryz.func34, Tryz.ntmps34
    go_upto_region 1 with fail
    generalize w.alloc (.cells #[.string x.letters, .slice q.values.a x.values.length q.values.c, .slice q.counts.a x.counts.length q.counts.c, .int .i64 x.blanks] 44) = w1 at *
    have t0 := VT.out.cell (i := 0) rfl
    have t1 := VT.out.cell (i := 1) rfl
    have t2 := VT.out.cell (i := 2) rfl
    have t3 := VT.out.cell (i := 3) rfl
    go_wp2_with fail
    refine (HVT.out _ HA.out).mono ?_
    rintro e w3 ⟨rfl, hd⟩
    clear t0 t1 t2 t3
    replace VT := Lib.hid (VT.out.kept hd)
    replace HA := Lib.hid (HA.out.kept hd)
    replace hb := hb.trans (hd.mono hb.size)
    clear hd
    have t0 := VT.out.cell (i := 0) rfl
    have t1 := VT.out.cell (i := 1) rfl
    have t2 := VT.out.cell (i := 2) rfl
    have t3 := VT.out.cell (i := 3) rfl
    go_wp2_with fail
    refine (HL2.out _ HA.out).mono ?_
    rintro e w4 ⟨rfl, hd⟩
    have hb2 := hb.trans (hd.mono hb.size)
    clear hd t0 t1 t2 t3
    go_wp2
    go_ret
    exact ⟨rfl, hb2⟩
end Go.Proofs.YtjdcdhhbgijaoaaGreatDoor
