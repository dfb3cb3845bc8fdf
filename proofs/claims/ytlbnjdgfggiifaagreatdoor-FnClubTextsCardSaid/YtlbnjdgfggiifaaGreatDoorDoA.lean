/- Contracts: the text of a result (program and reference). The program's decimal form leans on the table of powers of ten that Go's library lays. -/
import Derived.Test.YtlbnjdgfggiifaaGreatDoorShq
import Derived.Test.YtlbnjdgfggiifaaGreatDoorDecW
import Derived.Deep.RegionHeld3
namespace Go.Proofs.YtlbnjdgfggiifaaGreatDoor
open Go.ChangeShapes Go.WideShapes Go.ChangeAt Go.RowKit Go.Sort

theorem below_grown_q (w : World) (k : Nat) (os : Array Obj) : Below w.heap.size w (grow (w.drewN k) os) := by
  have h := below_regrown (w.drewN k) (w.drewN k).drawn os
  exact (Drew.drewN (Drew.refl _) k).below _ |>.trans h
def Tab (w : World) : Prop := Lib.TabIs Tryz.prog w "internal/strconv.uint64pow10" .u64 Lib.pow10Tab
theorem Tab.kept {w w' : World} (h : Tab w) (hb : Below w.heap.size w w') : Tab w' := by
  unfold Tab Lib.TabIs World.var? at *
  cases hg : Tryz.prog.globalNamed "internal/strconv.uint64pow10" with
  | none => simp [hg] at h
  | some g =>
    simp only [hg, Option.bind_some] at h ⊢
    have hlt : g < w.heap.size := by
      rcases Nat.lt_or_ge g w.heap.size with hlt | hge
      · exact hlt
      · rw [Array.getElem?_eq_none hge] at h; simp at h
    rw [hb.block g hlt]
    exact h
set_option maxHeartbeats 400000 in
theorem Decimal_any (n : Int) (h0 : -9223372036854775808 ≤ n) (h1 : n ≤ 9223372036854775807) (w : World) (ht : Tab w) : Calls Tryz.prog 29 #[.int .i64 n] w (StrPost w (Lib.itoa n)) := by
  have HT := Lib.hid (Tryz.strconv_FormatInt_10 n h0 h1 w ht)
  clear ht
  go_enter Tryz.func29, Tryz.ntmps29
  go_wp2_with fail
  refine HT.out.mono ?_
  rintro e w' ⟨rfl, k, os, rfl⟩
  go_wp2
  go_ret
  exact ⟨rfl, below_grown_q w k os⟩
set_option maxHeartbeats 400000 in
theorem joined_any (xs : List ByteArray) (bk cap : Nat) (w : World) (hc : ∀ (j : Nat) x, xs[j]? = some x → w.cell? ⟨bk, 0 + j, none⟩ = some (.string x)) (hbk : bk < w.heap.size) (hN : xs.length ≤ 1048576) (hcap : xs.length ≤ cap)
    (hlen : (Lib.join (xs.map (·.data.toList)) [32]).length ≤ 140737488355328) :
    Calls Tryz.prog 28 #[.slice (some ⟨bk, 0, none⟩) xs.length cap] w (StrPost w (Lib.join (xs.map (·.data.toList)) [32])) := by
  have HT := Lib.hid (Tryz.strings_Join bk 0 cap xs ⟨#[32]⟩ w hc hbk (by omega) hcap hlen)
  clear hc
  go_enter Tryz.func28, Tryz.ntmps28
  go_wp2_with fail
  refine HT.out.mono ?_
  rintro e w' ⟨rfl, hb⟩
  go_wp2
  go_ret
  exact ⟨rfl, hb⟩
end Go.Proofs.YtlbnjdgfggiifaaGreatDoor
