/- Contracts: the text of a result (program and reference). The program's decimal form leans on the table of powers of ten that Go's library lays. -/
import Derived.Test.YtjdcdhhbgijaoaaGreatDoorShq
import Derived.Test.YtjdcdhhbgijaoaaGreatDoorDecW
import Derived.Deep.RegionHeld3
namespace Go.Proofs.YtjdcdhhbgijaoaaGreatDoor
open Go.ChangeShapes Go.WideShapes Go.ChangeAt Go.RowKit Go.Sort

theorem below_grown_q (w : World) (k : Nat) (os : Array Obj) : Below w.heap.size w (grow (w.drewN k) os) := by
  have h := below_regrown (w.drewN k) (w.drewN k).drawn os
  exact (Drew.drewN (Drew.refl _) k).below _ |>.trans h
def Tab (w : World) : Prop := Lib.TabIs Tryz.prog w "internal/strconv.uint64pow10" .u64 Lib.pow10Tab
theorem Tab.kept {w w' : World} (h : Tab w) (hb : Below w.heap.size w w') : Tab w' := by
  unfold Tab Lib.TabIs World.var? at *
  cases hg : Tryz.prog.globalNamed "internal/strconv.uint64pow10" with
  | none => simp [hg] at h
  | some g =>
    simp only [hg, Option.bind_some] at h ⊢
    have hlt : g < w.heap.size := by
      rcases Nat.lt_or_ge g w.heap.size with hlt | hge
      · exact hlt
      · rw [Array.getElem?_eq_none hge] at h; simp at h
    rw [hb.block g hlt]
    exact h
set_option maxHeartbeats 400000 in
theorem Decimal_any (n : Int) (h0 : -9223372036854775808 ≤ n) (h1 : n ≤ 9223372036854775807) (w : World) (ht : Tab w) : Calls Tryz.prog 138 #[.int .i64 n] w (StrPost w (Lib.itoa n)) := by
  have HT := Lib.hid (Tryz.strconv_FormatInt_10 n h0 h1 w ht)
  clear ht
  go_enter Tryz.func138, Tryz.ntmps138
  go_wp2_with fail
  refine HT.out.mono ?_
  rintro e w' ⟨rfl, k, os, rfl⟩
  go_wp2
  go_ret
  exact ⟨rfl, below_grown_q w k os⟩
end Go.Proofs.YtjdcdhhbgijaoaaGreatDoor
