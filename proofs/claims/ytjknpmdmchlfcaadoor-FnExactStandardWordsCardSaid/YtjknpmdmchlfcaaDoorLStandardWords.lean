/- The statement FnExactStandardWords: the program's standard words are the reference's. Leans on the variable MaxLen of internal/bytealg. -/
import Derived.Test.YtjknpmdmchlfcaaDoorSw
import Derived.Test.YtjknpmdmchlfcaaDoorTStr
namespace Go.Proofs.YtjknpmdmchlfcaaDoor
open Go.ChangeShapes Go.WideShapes Go.ChangeAt Go.RowKit Go.Sort

set_option maxRecDepth 100000 in
set_option maxHeartbeats 2000000 in
theorem lawStandardWords_any (w : World) (he : EnvM w) : Calls Tryd.prog 3 #[] w fun e w' => e = .returned (.bool true) ∧ Below w.heap.size w w' := by
  have HE := Lib.hid he
  have HS : Hid (∀ W, Calls Tryd.prog 4 #[] W (TextsPost W stdWords)) := Lib.hid specStandardWords_any
  have HI : Hid (∀ W, EnvM W → Calls Tryd.prog 5 #[] W (TextsPost W stdWords)) := Lib.hid StandardWords_any
  have hl : stdWords.length ≤ 1000 := by decide
  clear he
  generalize stdWords = ms at *
  go_enter Tryd.func3, Tryd.ntmps3
  go_wp2_with fail
  refine (HS.out w).mono ?_
  rintro e w1 ⟨g1, cap1, rfl, o1, hb⟩
  have S1A := Lib.hid (own_slice Tx.enc_len o1 rfl)
  clear o1 HS
  go_wp2_with fail
  refine (HI.out w1 (HE.out.kept hb)).mono ?_
  rintro e w2 ⟨g2, cap2, rfl, o2, hA⟩
  have S2 := Lib.hid (own_slice Tx.enc_len o2 rfl)
  have S1 := Lib.hid (S1A.out.kept hA)
  have O2 := Lib.hid o2
  clear o2
  go_wp2_with fail
  refine (eqStringS_any ms _ _ cap2 cap1 _ S2.out S1.out (by omega)).mono ?_
  rintro e w3 ⟨rfl, hd⟩
  replace O2 := Lib.hid (own_below O2.out hd)
  replace hA := hA.trans (hd.mono hA.size)
  clear hd S1 S2
  go_wp2_with fail
  refine (markStringS_any ms _ cap2 _ 1 _ O2.out (by omega) (by omega) (by omega)).mono ?_
  rintro e w4 ⟨rfl, ho, hg⟩
  replace hA := hA.grown hg hA.size (fun q h => (O2.out.lt q h).1)
  have SM := Lib.hid (own_slice Tx.enc_len ho (Tx.marks_len 1 ms.length).symm)
  clear ho hg O2
  have hm2 : ¬ (1 : Int) + (ms.length : Int) < 0 := by omega
  go_wp2_with fail
  refine (heldStringS_any ms.length _ cap2 1 _ SM.out (by omega) (by omega) (by omega)).mono ?_
  rintro e w5 ⟨rfl, hd⟩
  replace hA := hA.trans (hd.mono hA.size)
  replace SM := Lib.hid (SM.out.kept hd)
  clear hd
  go_wp2_with fail
  refine (HI.out w5 (HE.out.kept (hb.trans (hA.mono hb.size)))).mono ?_
  rintro e w6 ⟨g3, cap3, rfl, o3, hd⟩
  replace hA := hA.trans (hd.mono hA.size)
  replace SM := Lib.hid (SM.out.kept hd)
  have S3 := Lib.hid (own_slice Tx.enc_len o3 rfl)
  have S1 := Lib.hid (S1A.out.kept hA)
  clear hd o3
  go_wp2_with fail
  refine (eqStringS_any ms _ _ cap3 cap1 _ S3.out S1.out (by omega)).mono ?_
  rintro e w7 ⟨rfl, hd⟩
  replace hA := hA.trans (hd.mono hA.size)
  replace SM := Lib.hid (SM.out.kept hd)
  clear hd S1 S3
  go_wp2_with fail
  refine (heldStringS_any ms.length _ cap2 1 _ SM.out (by omega) (by omega) (by omega)).mono ?_
  rintro e w8 ⟨rfl, hd⟩
  replace hA := hA.trans (hd.mono hA.size)
  go_wp2
  go_ret
  exact ⟨rfl, hb.trans (hA.mono hb.size)⟩
end Go.Proofs.YtjknpmdmchlfcaaDoor
