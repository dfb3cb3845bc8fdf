/- Contract: the program's SameLexicon. No condition but that a length fits an int. -/
import Derived.Test.YtalnbgcdhcnjfaaSam
import Derived.Test.YtalnbgcdhcnjfaaVar
namespace Go.Proofs.Ytalnbgcdhcnjfaa
open Go.ChangeShapes Go.WideShapes Go.ChangeAt Go.RowKit Go.Sort

set_option maxHeartbeats 1000000 in
theorem SameLexicon_any (xs ys : List ByteArray) (a b : Option Addr) (ca cb : Nat) (w : World) (ha : SliceAt w 1 Tx.enc a xs) (hc : SliceAt w 1 Tx.enc b ys) (hl : xs.length ≤ 9223372036854775807) (hm : ys.length ≤ 9223372036854775807) :
    Calls Try.prog 28 #[.agg #[.slice a xs.length ca], .agg #[.slice b ys.length cb]] w fun e w' => e = .returned (.bool (decide (xs = ys))) ∧ Below w.heap.size w w' := by
  have hb : Below w.heap.size w ((w.alloc (.cells #[.slice a xs.length ca] 43)).alloc (.cells #[.slice b ys.length cb] 43)) := ((Below.refl _ _).alloc (Nat.le_refl _) _).alloc (by simp) _
  have HA := Lib.hid ha; clear ha
  have HC := Lib.hid hc; clear hc
  go_enter Try.func28, Try.ntmps28
  go_wp2_with fail
  refine (equalStr_any xs ys a b ca cb _ (HA.out.kept hb) (HC.out.kept hb) hl hm).mono ?_
  rintro e w3 ⟨rfl, hd0⟩
  have hd := hd0.bel
  clear hd0
  go_wp2
  go_ret
  exact ⟨rfl, hb.trans (hd.mono hb.size)⟩
end Go.Proofs.Ytalnbgcdhcnjfaa
