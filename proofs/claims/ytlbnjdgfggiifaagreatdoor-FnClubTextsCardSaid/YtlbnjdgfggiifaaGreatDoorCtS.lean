/- Contracts: whether two clubs are the same: the reference's, slices.Equal, the program's. No condition but that lengths are small. Printed by bin/gen_cts.py -/
import Derived.Test.YtlbnjdgfggiifaaGreatDoorDoH
namespace Go.Proofs.YtlbnjdgfggiifaaGreatDoor
open Go.ChangeShapes Go.WideShapes Go.ChangeAt Go.RowKit Go.Sort

noncomputable def sameM (xs ys : List Mem) : Bool := @decide (xs = ys) (Classical.propDecidable _)
theorem sameM_no {xs ys : List Mem} (h : xs ≠ ys) : sameM xs ys = false := by unfold sameM; exact @decide_eq_false _ (Classical.propDecidable _) h
theorem sameM_self (xs : List Mem) : sameM xs xs = true := by unfold sameM; exact @decide_eq_true _ (Classical.propDecidable _) rfl
theorem sameM_yes {xs ys : List Mem} (h : xs = ys) : sameM xs ys = true := by rw [h]; exact sameM_self ys
theorem mem_str_ne {x y : ByteArray} (h : ¬ x = y) : (x.toList == y.toList) = false :=
  beq_eq_false_iff_ne.2 fun e => h (ByteArray.ext (Array.toList_inj.1 (by rw [← ByteArray.toList_eq, ← ByteArray.toList_eq]; exact e)))
theorem mem_next {α : Type} {xs ys : List α} {k : Nat} (h : xs.take k = ys.take k) (hx : k < xs.length) (hy : k < ys.length) (e : xs[k] = ys[k]) : xs.take (k + 1) = ys.take (k + 1) := by
  rw [List.take_succ_eq_append_getElem hx, List.take_succ_eq_append_getElem hy, h, e]
theorem mem_all {α : Type} {xs ys : List α} (hn : xs.length = ys.length) (k : Nat) (h1 : xs.length ≤ k) (h2 : xs.take k = ys.take k) : xs = ys := by
  rw [List.take_of_length_le h1, List.take_of_length_le (by omega)] at h2; exact h2
theorem retB {a b : Bool} (h : a = b) : Ending.returned (.bool a) = .returned (.bool b) := by rw [h]
set_option maxRecDepth 100000 in
set_option maxHeartbeats 2000000 in
theorem equalMem_any (xs ys : List Mem) (a b : Option Addr) (ca cb : Nat) (w : World) (ha : SliceAt w 2 Mem.enc a xs) (hb : SliceAt w 2 Mem.enc b ys) (hl : xs.length ≤ 1048576) (hm : ys.length ≤ 1048576) :
    Calls Tryz.prog 50 #[.slice a xs.length ca, .slice b ys.length cb] w fun e w' => e = .returned (.bool (sameM xs ys)) ∧ Drew w w' := by
  have HA := Lib.hid ha; clear ha
  have HB := Lib.hid hb; clear hb
  by_cases hn : xs.length = ys.length
  · have HE := Lib.hid (mem_all hn)
    have HL := Lib.hid hn
    go_enter Tryz.func50, Tryz.ntmps50
    rw [← hn]
    clear hn
    go_wp2_with fail
    go_loopw [13] (fun iv wr => ∃ k : Nat, k ≤ xs.length ∧ iv = .int .i64 k ∧ Hid (xs.take k = ys.take k) ∧ Drew w wr) (fun iv _ => xs.length - (intOf iv).toNat)
    case atStart => exact ⟨0, Nat.zero_le _, rfl, Lib.hid rfl, ⟨0, rfl⟩⟩
    case round =>
      obtain ⟨k, hk, rfl, HT, hd⟩ := hrel
      by_cases hlt : k < xs.length
      · obtain ⟨ab, ao, rfl, hca⟩ := (HA.out.kept (hd.below _)).open hlt
        have hlt2 : k < ys.length := by have := HL.out; omega
        obtain ⟨bb, bo, rfl, hcb⟩ := (HB.out.kept (hd.below _)).open hlt2
        have p0 := hca.at0 hlt (v := .string xs[k].name) rfl
        have q0 := hcb.at0 hlt2 (v := .string ys[k].name) rfl
        have p1 := hca k hlt 1 (.int .i64 xs[k].rating) rfl
        have q1 := hcb k hlt2 1 (.int .i64 ys[k].rating) rfl
        have HN := Lib.hid (fun e => mem_next HT.out hlt hlt2 e)
        have HD : Hid (xs[k] ≠ ys[k] → sameM xs ys = false) := Lib.hid (fun h => sameM_no fun e => h (by subst e; rfl))
        generalize xs[k] = x at *
        generalize ys[k] = y at *
        obtain ⟨xn, xr⟩ := x
        obtain ⟨yn, yr⟩ := y
        clear hca hcb
        by_cases hn2 : xn = yn
        · by_cases hr2 : xr = yr
          · subst hn2 hr2
            go_wp2_with fail
            go_quiet (fail)
            go_wp2
            go_roundw
            case rel => exact ⟨k + 1, by omega, by go_num, Lib.hid (by first | exact HN.out rfl | exact HN.out (by trivial)), hd.trans ⟨_, rfl⟩⟩
            case measure => simp [intOf]; omega
          · subst hn2
            have hne : (xr == yr) = false := beq_eq_false_iff_ne.2 hr2
            have HF := HD.out (fun e => hr2 (Mem.mk.inj e).2)
            have HF2 := Lib.hid HF
            clear HF HD HN
            go_wp2_with fail
            go_quiet (fail)
            go_wp2
            go_ret
            exact ⟨retB HF2.out.symm, hd.trans ⟨_, rfl⟩⟩
        · have hne := mem_str_ne hn2
          have HF := HD.out (fun e => hn2 (Mem.mk.inj e).1)
          have HF2 := Lib.hid HF
          clear HF HD HN
          go_wp2_with fail
          go_quiet (fail)
          go_wp2
          go_ret
          exact ⟨retB HF2.out.symm, hd.trans ⟨_, rfl⟩⟩
      · have HX := Lib.hid (sameM_yes (HE.out k (by omega) HT.out))
        go_wp2
        go_ret
        exact ⟨retB HX.out.symm, hd⟩
  · have HD := Lib.hid (sameM_no (xs := xs) (ys := ys) (fun e => hn (by rw [e])))
    have hn2 : ¬ (xs.length : Int) = (ys.length : Int) := by omega
    go_enter Tryz.func50, Tryz.ntmps50
    go_wp2
    go_ret
    exact ⟨retB HD.out.symm, ⟨0, rfl⟩⟩
set_option maxRecDepth 100000 in
set_option maxHeartbeats 2000000 in
theorem implSameClub_any (xs ys : List Mem) (a b : Option Addr) (ca cb : Nat) (w : World) (ha : SliceAt w 2 Mem.enc a xs) (hb : SliceAt w 2 Mem.enc b ys) (hl : xs.length ≤ 1048576) (hm : ys.length ≤ 1048576) :
    Calls Tryz.prog 22 #[.agg #[.slice a xs.length ca], .agg #[.slice b ys.length cb]] w fun e w' => e = .returned (.bool (sameM xs ys)) ∧ Below w.heap.size w w' := by
  obtain ⟨w2, hw2⟩ : ∃ w2, w2 = (w.alloc (.cells #[.slice a xs.length ca] 26)).alloc (.cells #[.slice b ys.length cb] 26) := ⟨_, rfl⟩
  have hx : Below w.heap.size w w2 := by rw [hw2]; exact ((Below.refl _ _).alloc (Nat.le_refl _) _).alloc (by simp) _
  have V0 : Hid (VarAt w2 w.heap.size 26 [.slice a xs.length ca]) := by
    rw [hw2]
    exact Lib.hid ((VarAt.new w 26 [.slice a xs.length ca]).kept ((Below.refl _ _).alloc (Nat.le_refl _) _))
  have V1 : Hid (VarAt w2 (w.heap.size + 1) 26 [.slice b ys.length cb]) := by
    rw [hw2]
    have := VarAt.new (w.alloc (.cells #[.slice a xs.length ca] 26)) 26 [.slice b ys.length cb]
    simp only [World.size_alloc] at this
    exact Lib.hid this
  have HA := Lib.hid (ha.kept hx)
  have HB := Lib.hid (hb.kept hx)
  clear ha hb
  have c0 := V0.out.cell (i := 0) rfl
  have c1 := V1.out.cell (i := 0) rfl
  go_enter Tryz.func22, Tryz.ntmps22
  go_upto_region 1 with fail
  rw [← hw2]
  clear hw2
  go_wp2_with fail
  refine (equalMem_any xs ys a b ca cb w2 HA.out HB.out hl hm).mono ?_
  rintro e w3 ⟨rfl, hd⟩
  replace hx := hx.trans ((hd.below _).mono hx.size)
  clear hd V0 V1 c0 c1 HA HB
  go_wp2
  go_ret
  exact ⟨rfl, hx⟩
set_option maxRecDepth 100000 in
set_option maxHeartbeats 2000000 in
theorem specSameClub_any (xs ys : List Mem) (a b : Option Addr) (ca cb : Nat) (w : World) (ha : SliceAt w 2 Mem.enc a xs) (hb : SliceAt w 2 Mem.enc b ys) (hl : xs.length ≤ 1048576) (hm : ys.length ≤ 1048576) :
    Calls Tryz.prog 20 #[.agg #[.slice a xs.length ca], .agg #[.slice b ys.length cb]] w fun e w' => e = .returned (.bool (sameM xs ys)) ∧ Below w.heap.size w w' := by
  obtain ⟨w2, hw2⟩ : ∃ w2, w2 = (w.alloc (.cells #[.slice a xs.length ca] 26)).alloc (.cells #[.slice b ys.length cb] 26) := ⟨_, rfl⟩
  have hx : Below w.heap.size w w2 := by rw [hw2]; exact ((Below.refl _ _).alloc (Nat.le_refl _) _).alloc (by simp) _
  have V0 : Hid (VarAt w2 w.heap.size 26 [.slice a xs.length ca]) := by
    rw [hw2]
    exact Lib.hid ((VarAt.new w 26 [.slice a xs.length ca]).kept ((Below.refl _ _).alloc (Nat.le_refl _) _))
  have V1 : Hid (VarAt w2 (w.heap.size + 1) 26 [.slice b ys.length cb]) := by
    rw [hw2]
    have := VarAt.new (w.alloc (.cells #[.slice a xs.length ca] 26)) 26 [.slice b ys.length cb]
    simp only [World.size_alloc] at this
    exact Lib.hid this
  have HA := Lib.hid (ha.kept hx)
  have HB := Lib.hid (hb.kept hx)
  clear ha hb
  have c0 := V0.out.cell (i := 0) rfl
  have c1 := V1.out.cell (i := 0) rfl
  by_cases hn : xs.length = ys.length
  · have HE := Lib.hid (mem_all hn)
    have HL := Lib.hid hn
    clear hn
    go_enter Tryz.func20, Tryz.ntmps20
    go_upto_region 1 with fail
    rw [← hw2]
    clear hw2
    have hn := HL.out
    have hnI : (xs.length : Int) = (ys.length : Int) := by omega
    rw [← hn] at c1
    clear hn
    go_wp2_with fail
    clear c0 c1
    go_loopw [5] (fun iv wr => ∃ k : Nat, k ≤ xs.length ∧ iv = .int .i64 k ∧ Hid (xs.take k = ys.take k) ∧ Below w2.heap.size w2 wr) (fun iv _ => xs.length - (intOf iv).toNat)
    case atStart => exact ⟨0, Nat.zero_le _, rfl, Lib.hid rfl, Below.refl _ _⟩
    case round =>
      obtain ⟨k, hk, rfl, HT, hd⟩ := hrel
      have c0 := (V0.out.kept hd).cell (i := 0) rfl
      have c1 := (V1.out.kept hd).cell (i := 0) rfl
      by_cases hlt : k < xs.length
      · obtain ⟨ab, ao, rfl, hca⟩ := (HA.out.kept hd).open hlt
        have hlt2 : k < ys.length := by have := HL.out; omega
        obtain ⟨bb, bo, rfl, hcb⟩ := (HB.out.kept hd).open hlt2
        have p0 := hca.at0 hlt (v := .string xs[k].name) rfl
        have q0 := hcb.at0 hlt2 (v := .string ys[k].name) rfl
        have p1 := hca k hlt 1 (.int .i64 xs[k].rating) rfl
        have q1 := hcb k hlt2 1 (.int .i64 ys[k].rating) rfl
        have HN := Lib.hid (fun e => mem_next HT.out hlt hlt2 e)
        have HD : Hid (xs[k] ≠ ys[k] → sameM xs ys = false) := Lib.hid (fun h => sameM_no fun e => h (by subst e; rfl))
        generalize xs[k] = x at *
        generalize ys[k] = y at *
        obtain ⟨xn, xr⟩ := x
        obtain ⟨yn, yr⟩ := y
        clear hca hcb
        by_cases hn2 : xn = yn
        · by_cases hr2 : xr = yr
          · subst hn2 hr2
            go_wp2_with fail
            go_quiet (fail)
            have hd9 : Below wr.heap.size wr (wr.drewN nq) := (Drew.drewN (Drew.refl _) nq).below _
            go_wp2
            go_roundw
            case rel => exact ⟨k + 1, by omega, by go_num, Lib.hid (by first | exact HN.out rfl | exact HN.out (by trivial)), hd.trans (hd9.mono hd.size)⟩
            case measure => simp [intOf]; omega
          · subst hn2
            have hne : (xr == yr) = false := beq_eq_false_iff_ne.2 hr2
            have HF := HD.out (fun e => hr2 (Mem.mk.inj e).2)
            have HF2 := Lib.hid HF
            clear HF HD HN
            go_wp2_with fail
            go_quiet (fail)
            have hd9 : Below wr.heap.size wr (wr.drewN nq) := (Drew.drewN (Drew.refl _) nq).below _
            go_wp2
            go_ret
            exact ⟨retB HF2.out.symm, (hx.trans (hd.mono hx.size)).trans (hd9.mono (Nat.le_trans hx.size hd.size))⟩
        · have hne := mem_str_ne hn2
          have HF := HD.out (fun e => hn2 (Mem.mk.inj e).1)
          have HF2 := Lib.hid HF
          clear HF HD HN
          go_wp2_with fail
          go_quiet (fail)
          have hd9 : Below wr.heap.size wr (wr.drewN nq) := (Drew.drewN (Drew.refl _) nq).below _
          go_wp2
          go_ret
          exact ⟨retB HF2.out.symm, (hx.trans (hd.mono hx.size)).trans (hd9.mono (Nat.le_trans hx.size hd.size))⟩
      · have HX := Lib.hid (sameM_yes (HE.out k (by omega) HT.out))
        go_wp2
        go_ret
        exact ⟨retB HX.out.symm, hx.trans (hd.mono hx.size)⟩
  · have HD := Lib.hid (sameM_no (xs := xs) (ys := ys) (fun e => hn (by rw [e])))
    have HN2 : Hid (¬ (xs.length : Int) = (ys.length : Int)) := Lib.hid (by omega)
    clear hn
    go_enter Tryz.func20, Tryz.ntmps20
    go_upto_region 1 with fail
    rw [← hw2]
    clear hw2
    have hn2 := HN2.out
    go_wp2
    go_ret
    exact ⟨retB HD.out.symm, hx⟩
end Go.Proofs.YtlbnjdgfggiifaaGreatDoor
