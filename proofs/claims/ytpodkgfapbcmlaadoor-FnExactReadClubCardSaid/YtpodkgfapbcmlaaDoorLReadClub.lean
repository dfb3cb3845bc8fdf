/- The statement FnExactReadClub: the program's ReadClub gives what the reference's gives. For every text; Go's own tables, MaxLen and strconv's two errors as they are laid. -/
import Derived.Test.YtpodkgfapbcmlaaDoorDoH
import Derived.Test.YtpodkgfapbcmlaaDoorClubT
namespace Go.Proofs.YtpodkgfapbcmlaaDoor
open Go.ChangeShapes Go.WideShapes Go.ChangeAt Go.RowKit Go.Sort

def ClubRd (ms : List Mem) (k : Bool) (w : World) (e : Ending) (w' : World) : Prop :=
  ∃ (a : Option Addr) (cap : Nat), e = .returned (.tuple #[.agg #[.slice a ms.length cap], .bool k]) ∧ w'.ownsRow w.heap.size 64 2 (.slice a ms.length cap) ms.length (ms.flatMap Mem.enc) ∧ Below w.heap.size w w'
theorem specClub_len (l : List UInt8) : ((specClub l).getD []).length ≤ 12 := by
  cases h : specClub l with
  | none => simp
  | some ms => exact (club_mem ((specClub_iff l ms).1 h).1).1
set_option maxRecDepth 100000 in
set_option maxHeartbeats 4000000 in
theorem lawReadClub_any (s : ByteArray) (w : World) (he : Env w) :
    Calls Tryd.prog 6 #[.string s] w fun e w' => e = .returned (.bool true) ∧ Below w.heap.size w w' := by
  have hb : Below w.heap.size w w := Below.refl _ _
  have HENV := Lib.hid he
  clear he
  by_cases hs : s.size ≤ 1048576
  · have hlt : ¬ (1048576 : Int) < s.size := by omega
    have HSC : Hid (∀ W, Calls Tryd.prog 19 #[.string s] W (ClubRd ((specClub s.data.toList).getD []) (specClub s.data.toList).isSome W)) := Lib.hid (fun W => specReadClub_any s W hs)
    have HIC : Hid (∀ W, Env W → Calls Tryd.prog 20 #[.string s] W (ClubRd ((specClub s.data.toList).getD []) (specClub s.data.toList).isSome W)) := Lib.hid (fun W h => by have := ReadClub_any s W h hs; rw [readClub_eq] at this; exact this)
    have hms := specClub_len s.data.toList
    generalize (specClub s.data.toList).getD [] = ms at *
    generalize (specClub s.data.toList).isSome = k at *
    go_enter Tryd.func6, Tryd.ntmps6
    go_wp2_with fail
    refine (HSC.out _).mono ?_
    rintro e w1 ⟨a1, cap1, rfl, o1, hd⟩
    replace hb := hb.trans (hd.mono hb.size)
    replace HENV := Lib.hid (HENV.out.kept hd)
    have hx : Below w1.heap.size w1 (w1.alloc (.cells #[.slice a1 ms.length cap1] 36)) := (Below.refl _ _).alloc (Nat.le_refl _) _
    have V0 := Lib.hid (VarAt.new w1 36 [.slice a1 ms.length cap1])
    have S1 := Lib.hid ((own_slice Mem.enc_len o1 rfl).kept hx)
    replace hb := hb.trans (hx.mono hb.size)
    replace HENV := Lib.hid (HENV.out.kept hx)
    clear hd hx o1 HSC
    go_wp2_with fail
    generalize w1.alloc (.cells #[.slice a1 ms.length cap1] 36) = wA at *
    generalize w1.heap.size = B0 at *
    have hB0 := V0.out.lt
    refine (HIC.out _ HENV.out).mono ?_
    rintro e w2 ⟨a2, cap2, rfl, o2, hA⟩
    replace V0 := Lib.hid (V0.out.kept hA)
    have hx : Below w2.heap.size w2 (w2.alloc (.cells #[.slice a2 ms.length cap2] 36)) := (Below.refl _ _).alloc (Nat.le_refl _) _
    have V1 := Lib.hid (VarAt.new w2 36 [.slice a2 ms.length cap2])
    have NE : Hid (∀ q, (Value.slice a2 ms.length cap2).ownBlock = some q → q ≠ w2.heap.size) := Lib.hid (fun q h e => by have := (o2.lt q h).2; omega)
    have O2 := Lib.hid (own_below o2 hx)
    replace V0 := Lib.hid (V0.out.kept hx)
    replace hA := hA.trans (hx.mono hA.size)
    clear hx o2
    have S1B := Lib.hid (S1.out.kept hA)
    have S2 := Lib.hid (own_slice Mem.enc_len O2.out rfl)
    have c0 := V0.out.cell (i := 0) rfl
    have c1 := V1.out.cell (i := 0) rfl
    go_wp2_with fail
    refine (eqClub_any ms a2 a1 cap2 cap1 _ S2.out S1B.out (by omega)).mono ?_
    rintro e w3 ⟨rfl, hd⟩
    clear c0 c1 S1B S2
    replace V0 := Lib.hid (V0.out.kept hd)
    replace V1 := Lib.hid (V1.out.kept hd)
    replace hA := hA.trans (hd.mono hA.size)
    replace O2 := Lib.hid (own_below O2.out hd)
    clear hd
    generalize w2.heap.size = B1 at *
    have c1 := V1.out.cell (i := 0) rfl
    go_wp2_with fail
    refine (markClub_any ms a2 cap2 _ 1 _ O2.out (by omega) (by omega) (by omega)).mono ?_
    rintro e w4 ⟨wz, hd, rfl, ho, hg⟩
    clear c1
    replace V0 := Lib.hid (V0.out.kept hd)
    replace V1 := Lib.hid (V1.out.kept hd)
    replace hA := hA.trans (hd.mono hA.size)
    replace O2 := Lib.hid (own_below O2.out hd)
    clear hd
    replace V0 := Lib.hid (V0.out.grown hg (own_ne O2.out hB0))
    replace V1 := Lib.hid (V1.out.grown hg (fun h => NE.out _ h.symm rfl))
    replace hA := hA.grown hg hA.size (fun q h => (O2.out.lt q h).1)
    have SM := Lib.hid (own_slice Mem.enc_len ho (Mem.marks_len 1 ms.length).symm)
    clear ho hg O2
    have hm2 : ¬ (1 : Int) + 2 * (ms.length : Int) < 0 := by omega
    have c1 := V1.out.cell (i := 0) rfl
    go_wp2_with fail
    refine (heldClub_any ms.length a2 cap2 1 _ SM.out (by omega) (by omega) (by omega)).mono ?_
    rintro e w5 ⟨rfl, hd⟩
    clear c1
    replace V0 := Lib.hid (V0.out.kept hd)
    replace V1 := Lib.hid (V1.out.kept hd)
    replace hA := hA.trans (hd.mono hA.size)
    replace SM := Lib.hid (SM.out.kept hd)
    clear hd
    go_wp2_with fail
    refine (HIC.out _ (HENV.out.kept hA)).mono ?_
    rintro e w6 ⟨a3, cap3, rfl, o3, hd⟩
    replace V0 := Lib.hid (V0.out.kept hd)
    replace V1 := Lib.hid (V1.out.kept hd)
    replace hA := hA.trans (hd.mono hA.size)
    replace SM := Lib.hid (SM.out.kept hd)
    clear hd
    have hd : Below w6.heap.size w6 (w6.alloc (.cells #[.slice a3 ms.length cap3] 36)) := (Below.refl _ _).alloc (Nat.le_refl _) _
    have V3 := Lib.hid (VarAt.new w6 36 [.slice a3 ms.length cap3])
    have S3 := Lib.hid ((own_slice Mem.enc_len o3 rfl).kept hd)
    replace V0 := Lib.hid (V0.out.kept hd)
    replace V1 := Lib.hid (V1.out.kept hd)
    replace hA := hA.trans (hd.mono hA.size)
    replace SM := Lib.hid (SM.out.kept hd)
    clear hd o3
    have S1B := Lib.hid (S1.out.kept hA)
    have c0 := V0.out.cell (i := 0) rfl
    have c3 := V3.out.cell (i := 0) rfl
    go_wp2_with fail
    refine (eqClub_any ms a3 a1 cap3 cap1 _ S3.out S1B.out (by omega)).mono ?_
    rintro e w7 ⟨rfl, hd⟩
    clear c0 c3 S1B S3 V3
    replace V0 := Lib.hid (V0.out.kept hd)
    replace V1 := Lib.hid (V1.out.kept hd)
    replace hA := hA.trans (hd.mono hA.size)
    replace SM := Lib.hid (SM.out.kept hd)
    clear hd
    have c1 := V1.out.cell (i := 0) rfl
    go_wp2_with fail
    refine (heldClub_any ms.length a2 cap2 1 _ SM.out (by omega) (by omega) (by omega)).mono ?_
    rintro e w8 ⟨rfl, hd⟩
    clear c1
    replace V0 := Lib.hid (V0.out.kept hd)
    replace V1 := Lib.hid (V1.out.kept hd)
    replace hA := hA.trans (hd.mono hA.size)
    clear hd
    go_wp2
    go_ret
    exact ⟨rfl, hb.trans (hA.mono hb.size)⟩
  · have hlt : (1048576 : Int) < s.size := by omega
    go_wp2
    go_ret
    exact ⟨rfl, hb⟩
end Go.Proofs.YtpodkgfapbcmlaaDoor
