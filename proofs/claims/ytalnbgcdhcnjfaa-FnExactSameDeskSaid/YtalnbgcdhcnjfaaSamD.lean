/- Contracts: SameDesk of the reference and of the program. No condition but that a length fits an int. -/
import Derived.Test.YtalnbgcdhcnjfaaSamH
import Derived.Test.YtalnbgcdhcnjfaaSamI
namespace Go.Proofs.Ytalnbgcdhcnjfaa
open Go.ChangeShapes Go.WideShapes Go.ChangeAt Go.RowKit Go.Sort

set_option maxRecDepth 100000 in
set_option maxHeartbeats 16000000 in
theorem specSameDesk_any (x y : Gam) (p q : GaA) (w : World) (ha : x.At p w) (hc : y.At q w) (hf : x.fit) (hg : y.fit) :
    Calls Try.prog 5 #[.agg (gcells x p).toArray, .agg (gcells y q).toArray] w fun e w' => e = .returned (.bool (sameG x y)) ∧ Below w.heap.size w w' := by
  obtain ⟨w2, hw2⟩ : ∃ w2, w2 = (w.alloc (.cells (gcells x p).toArray 53)).alloc (.cells (gcells y q).toArray 53) := ⟨_, rfl⟩
  have hb : Below w.heap.size w w2 := by rw [hw2]; exact ((Below.refl _ _).alloc (Nat.le_refl _) _).alloc (by simp) _
  have VA : Hid (VarAt w2 w.heap.size 53 (gcells x p)) := by
    rw [hw2]
    exact Lib.hid ((VarAt.new w 53 (gcells x p)).kept ((Below.refl _ _).alloc (Nat.le_refl _) _))
  have VB : Hid (VarAt w2 (w.heap.size + 1) 53 (gcells y q)) := by
    rw [hw2]
    have := VarAt.new (w.alloc (.cells (gcells x p).toArray 53)) 53 (gcells y q)
    simp only [World.size_alloc] at this
    exact Lib.hid this
  have HW2 := Lib.hid hw2
  have HQ := Lib.hid (specSameGame_any x y p q w2 (Gam.At.kept ha hb) (Gam.At.kept hc hb) hf hg)
  have HSX := Lib.hid (size_game x p)
  have HSY := Lib.hid (size_game y q)
  clear hw2 ha hc hf hg
  generalize gcells x p = gx at *
  generalize gcells y q = gy at *
  generalize sameG x y = sG at *
  go_enter Try.func5, Try.ntmps5
  go_upto_region 1 with fail
  rw [← HW2.out]
  clear HW2
  have RA := VA.out.range
  have RB := VB.out.range
  go_wp2_with (first | refine wpList_load_mid rfl 51 _ rfl w.heap.size 0 rfl gx _ RA Try.underlying51 rfl HSX.out ?_ | refine wpList_load_mid rfl 51 _ rfl (w.heap.size + 1) 0 rfl gy _ RB Try.underlying51 rfl HSY.out ?_)
  clear RA RB
  refine HQ.out.mono ?_
  rintro e w3 ⟨rfl, hd⟩
  replace hb := hb.trans (hd.mono hb.size)
  clear hd VA VB HQ HSX HSY
  go_wp2
  go_ret
  exact ⟨rfl, hb⟩
set_option maxRecDepth 100000 in
set_option maxHeartbeats 16000000 in
theorem implSameDesk_any (x y : Gam) (p q : GaA) (w : World) (ha : x.At p w) (hc : y.At q w) (hf : x.fit) (hg : y.fit) :
    Calls Try.prog 7 #[.agg (gcells x p).toArray, .agg (gcells y q).toArray] w fun e w' => e = .returned (.bool (sameG x y)) ∧ Below w.heap.size w w' := by
  obtain ⟨w2, hw2⟩ : ∃ w2, w2 = (w.alloc (.cells (gcells x p).toArray 53)).alloc (.cells (gcells y q).toArray 53) := ⟨_, rfl⟩
  have hb : Below w.heap.size w w2 := by rw [hw2]; exact ((Below.refl _ _).alloc (Nat.le_refl _) _).alloc (by simp) _
  have VA : Hid (VarAt w2 w.heap.size 53 (gcells x p)) := by
    rw [hw2]
    exact Lib.hid ((VarAt.new w 53 (gcells x p)).kept ((Below.refl _ _).alloc (Nat.le_refl _) _))
  have VB : Hid (VarAt w2 (w.heap.size + 1) 53 (gcells y q)) := by
    rw [hw2]
    have := VarAt.new (w.alloc (.cells (gcells x p).toArray 53)) 53 (gcells y q)
    simp only [World.size_alloc] at this
    exact Lib.hid this
  have HW2 := Lib.hid hw2
  have HQ := Lib.hid (implSameGame_any x y p q w2 (Gam.At.kept ha hb) (Gam.At.kept hc hb) hf hg)
  have HSX := Lib.hid (size_game x p)
  have HSY := Lib.hid (size_game y q)
  clear hw2 ha hc hf hg
  generalize gcells x p = gx at *
  generalize gcells y q = gy at *
  generalize sameG x y = sG at *
  go_enter Try.func7, Try.ntmps7
  go_upto_region 1 with fail
  rw [← HW2.out]
  clear HW2
  have RA := VA.out.range
  have RB := VB.out.range
  go_wp2_with (first | refine wpList_load_mid rfl 51 _ rfl w.heap.size 0 rfl gx _ RA Try.underlying51 rfl HSX.out ?_ | refine wpList_load_mid rfl 51 _ rfl (w.heap.size + 1) 0 rfl gy _ RB Try.underlying51 rfl HSY.out ?_)
  clear RA RB
  refine HQ.out.mono ?_
  rintro e w3 ⟨rfl, hd⟩
  replace hb := hb.trans (hd.mono hb.size)
  clear hd VA VB HQ HSX HSY
  go_wp2
  go_ret
  exact ⟨rfl, hb⟩
end Go.Proofs.Ytalnbgcdhcnjfaa
