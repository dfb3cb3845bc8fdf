/- Contracts: the program's comparison of plays and of scored plays. No condition. -/
import Derived.Test.YtjdcdhhbgijaoaaGreatDoorBpA
import Derived.Test.YtjdcdhhbgijaoaaGreatDoorTiC
namespace Go.Proofs.YtjdcdhhbgijaoaaGreatDoor
open Go.ChangeShapes Go.WideShapes Go.ChangeAt Go.RowKit Go.Sort

/-- the first that is not zero -/
def orL : List Int → Int
  | [] => 0
  | x :: r => if x = 0 then orL r else x
theorem orL_step {xs : List Int} {k : Nat} (h : k < xs.length) : orL (xs.drop k) = if xs.getD k 0 = 0 then orL (xs.drop (k + 1)) else xs.getD k 0 := by
  rw [List.drop_eq_getElem_cons h, List.getD_eq_getElem?_getD, List.getElem?_eq_getElem h]
  rfl
theorem ints_new (w : World) (t : TypeId) (xs : List Int) : SliceAt (w.alloc (.cells (xs.map (Value.int .i64)).toArray t)) 1 I64.enc (some ⟨w.heap.size, 0, none⟩) xs := by
  refine .inr ⟨w.heap.size, 0, rfl, fun i hi j v hv => ?_⟩
  have V := VarAt.new w t (xs.map (Value.int .i64))
  cases j with
  | zero =>
    have hv' : some (Value.int .i64 xs[i]) = some v := hv
    have := V.cell (i := i) (v := v) (by rw [List.getElem?_map, List.getElem?_eq_getElem hi]; exact hv')
    rw [Nat.zero_add, Nat.mul_one, Nat.add_zero]
    exact this
  | succ j =>
    exfalso
    have : (I64.enc xs[i])[j + 1]? = none := rfl
    rw [this] at hv
    cases hv
set_option maxHeartbeats 1000000 in
theorem orInt_any (xs : List Int) (g cap : Nat) (w : World) (hm : SliceAt w 1 I64.enc (some ⟨g, 0, none⟩) xs) (hl : xs.length ≤ 9223372036854775807) :
    Calls Tryz.prog 133 #[.slice (some ⟨g, 0, none⟩) xs.length cap] w fun e w' => e = .returned (.int .i64 (orL xs)) ∧ w = w' := by
  have HM := Lib.hid hm
  have HS := Lib.hid (fun (k : Nat) (h : k < xs.length) => orL_step h)
  clear hm
  obtain ⟨R, hR⟩ : ∃ R, R = orL xs := ⟨_, rfl⟩
  rw [← hR]
  have HR := Lib.hid hR
  clear hR
  have hw : w = w := rfl
  go_enter Tryz.func133, Tryz.ntmps133
  go_upto_region 3 with fail
  go_loopw [5, 8] (fun _ iv wr => ∃ k : Nat, k ≤ xs.length ∧ iv = .int .i64 k ∧ Hid (R = orL (xs.drop k)) ∧ w = wr) (fun _ iv _ => xs.length - (intOf iv).toNat)
  case atStart => exact ⟨0, Nat.zero_le _, rfl, HR, rfl⟩
  case round =>
    obtain ⟨k, hk, rfl, HK, rfl⟩ := hrel
    by_cases hk2 : k < xs.length
    · obtain ⟨b, o, ha, c0⟩ := num_cell HM.out hk2
      cases ha
      rw [Nat.zero_add] at c0
      have HKS := Lib.hid (HK.out.trans (HS.out k hk2))
      have hki : (k : Int) < (xs.length : Int) := by omega
      generalize xs.getD k 0 = v at *
      by_cases hv : v = 0
      · have HN : Hid (R = orL (xs.drop (k + 1))) := Lib.hid (by rw [HKS.out, if_pos hv])
        subst hv
        clear HK HKS
        go_wp2
        go_roundw
        case rel => exact ⟨k + 1, by omega, by go_num, HN, by trivial⟩
        case measure => simp [intOf]; omega
      · have HN : Hid (R = v) := Lib.hid (by rw [HKS.out, if_neg hv])
        clear HK HKS
        go_wp2
        go_ret
        exact ⟨by rw [HN.out]; rfl, rfl⟩
    · obtain rfl : k = xs.length := by omega
      have HN : Hid (R = 0) := Lib.hid (by rw [HK.out, List.drop_length]; rfl)
      clear HK
      go_wp2
      go_ret
      exact ⟨by rw [HN.out]; rfl, rfl⟩
theorem cmp_or (a b : Ply) : orL [if a.down = b.down then 0 else if a.down = true then 1 else -1, sgnI a.row b.row, sgnI a.col b.col, sgnT a.word b.word] = a.cmp b := by
  have hz : ∀ x y : Int, sgnI x y = 0 ↔ x = y := fun x y => by
    unfold sgnI
    split
    · constructor
      · intro h; cases h
      · intro h; omega
    · split
      · constructor
        · intro h; cases h
        · intro h; omega
      · constructor
        · intro _; omega
        · intro _; rfl
  unfold Ply.cmp
  simp only [orL]
  by_cases h1 : a.down = b.down
  · rw [if_pos h1, if_pos h1, if_pos rfl]
    by_cases h2 : a.row = b.row
    · rw [if_pos h2, if_pos ((hz _ _).2 h2)]
      by_cases h3 : a.col = b.col
      · rw [if_pos h3, if_pos ((hz _ _).2 h3)]
        split <;> simp_all
      · rw [if_neg h3, if_neg (fun h => h3 ((hz _ _).1 h))]
    · rw [if_neg h2, if_neg (fun h => h2 ((hz _ _).1 h))]
  · rw [if_neg h1, if_neg h1]
    cases ha : a.down <;> cases hb : b.down <;> simp_all
set_option maxRecDepth 100000 in
set_option maxHeartbeats 4000000 in
theorem ComparePlays_any (a b : Ply) (w : World) :
    Calls Tryz.prog 55 #[.agg #[.int .i64 a.row, .int .i64 a.col, .bool a.down, .string a.word], .agg #[.int .i64 b.row, .int .i64 b.col, .bool b.down, .string b.word]] w fun e w' => e = .returned (.int .i64 (a.cmp b)) ∧ Below w.heap.size w w' := by
  obtain ⟨w2, hw2⟩ : ∃ w2, w2 = (w.alloc (.cells #[.int .i64 a.row, .int .i64 a.col, .bool a.down, .string a.word] 30)).alloc (.cells #[.int .i64 b.row, .int .i64 b.col, .bool b.down, .string b.word] 30) := ⟨_, rfl⟩
  have hb : Below w.heap.size w w2 := by rw [hw2]; exact ((Below.refl _ _).alloc (Nat.le_refl _) _).alloc (by simp) _
  have VA : Hid (VarAt w2 w.heap.size 30 [.int .i64 a.row, .int .i64 a.col, .bool a.down, .string a.word]) := by
    rw [hw2]
    exact Lib.hid ((VarAt.new w 30 [.int .i64 a.row, .int .i64 a.col, .bool a.down, .string a.word]).kept ((Below.refl _ _).alloc (Nat.le_refl _) _))
  have VB : Hid (VarAt w2 (w.heap.size + 1) 30 [.int .i64 b.row, .int .i64 b.col, .bool b.down, .string b.word]) := by
    rw [hw2]
    have := VarAt.new (w.alloc (.cells #[.int .i64 a.row, .int .i64 a.col, .bool a.down, .string a.word] 30)) 30 [.int .i64 b.row, .int .i64 b.col, .bool b.down, .string b.word]
    simp only [World.size_alloc] at this
    exact Lib.hid this
  have HW2 := Lib.hid hw2
  clear hw2
  go_enter Tryz.func55, Tryz.ntmps55
  go_upto_region 1 with fail
  rw [← HW2.out]
  clear HW2
  have a2 := VA.out.cell (i := 2) rfl
  have b2 := VB.out.cell (i := 2) rfl
  cases ha : a.down with
  | false =>
    cases hd : b.down with
    | false =>
      have HC := Lib.hid (cmp_or a b)
      rw [ha, hd, if_pos rfl] at HC
      rw [ha] at a2 VA
      rw [hd] at b2 VB
      clear ha hd
      go_upto_region 6 with fail
      clear a2 b2
      have hd : Below w2.heap.size w2 w2.drew := (Below.refl _ _).drew
      replace hb := hb.trans (hd.mono hb.size)
      replace VA := Lib.hid (VA.out.kept hd)
      replace VB := Lib.hid (VB.out.kept hd)
      clear hd
      have a0 := VA.out.cell (i := 0) rfl
      have a1 := VA.out.cell (i := 1) rfl
      have a3 := VA.out.cell (i := 3) rfl
      have b0 := VB.out.cell (i := 0) rfl
      have b1 := VB.out.cell (i := 1) rfl
      have b3 := VB.out.cell (i := 3) rfl
      have HO : Hid (∀ W : World, Calls Tryz.prog 133 #[.slice (some ⟨W.heap.size, 0, none⟩) 4 4] (W.alloc (.cells #[.int .i64 (0), .int .i64 (sgnI a.row b.row), .int .i64 (sgnI a.col b.col), .int .i64 (sgnT a.word b.word)] 3)) fun e w' => e = .returned (.int .i64 (a.cmp b)) ∧ (W.alloc (.cells #[.int .i64 (0), .int .i64 (sgnI a.row b.row), .int .i64 (sgnI a.col b.col), .int .i64 (sgnT a.word b.word)] 3)) = w') := Lib.hid (fun W => by
        have h := orInt_any [0, sgnI a.row b.row, sgnI a.col b.col, sgnT a.word b.word] W.heap.size 4 _ (ints_new W 3 [0, sgnI a.row b.row, sgnI a.col b.col, sgnT a.word b.word]) (by simp)
        rw [HC.out] at h
        exact h)
      have HC1 := Lib.hid (cmpInt_any a.row b.row)
      have HC2 := Lib.hid (cmpInt_any a.col b.col)
      have HC3 := Lib.hid (cmpText_any a.word b.word)
      generalize sgnI a.row b.row = n1 at *
      generalize sgnI a.col b.col = n2 at *
      generalize sgnT a.word b.word = n3 at *
      refine wp_region_still_tail 16 (by kernel_rfl) (by kernel_rfl) ?_
      simp only [List.take_succ_cons, List.take_zero, List.drop_succ_cons, List.drop_zero]
      change wpStill _ _ w2.drew (fun a' => wpList _ _ _ _ a' w2.drew) _ _
      generalize w2.drew = wd at *
      iterate 5 still_step
      still_call (HC1.out _)
      iterate 4 still_step
      still_call (HC2.out _)
      iterate 4 still_step
      still_call (HC3.out _)
      refine wpStill_nil ?_
      clear a0 a1 a3 b0 b1 b3 VA VB HC1 HC2 HC3
      go_wp2_with fail
      refine (HO.out wd).mono ?_
      rintro e w' ⟨rfl, rfl⟩
      go_wp2
      go_ret
      exact ⟨rfl, hb.alloc hb.size _⟩
    | true =>
      have HC := Lib.hid (cmp_or a b)
      rw [ha, hd, if_neg (by decide), if_neg (by decide)] at HC
      rw [ha] at a2 VA
      rw [hd] at b2 VB
      clear ha hd
      go_upto_region 6 with fail
      clear a2 b2
      have hd : Below w2.heap.size w2 w2.drew := (Below.refl _ _).drew
      replace hb := hb.trans (hd.mono hb.size)
      replace VA := Lib.hid (VA.out.kept hd)
      replace VB := Lib.hid (VB.out.kept hd)
      clear hd
      have a0 := VA.out.cell (i := 0) rfl
      have a1 := VA.out.cell (i := 1) rfl
      have a3 := VA.out.cell (i := 3) rfl
      have b0 := VB.out.cell (i := 0) rfl
      have b1 := VB.out.cell (i := 1) rfl
      have b3 := VB.out.cell (i := 3) rfl
      have HO : Hid (∀ W : World, Calls Tryz.prog 133 #[.slice (some ⟨W.heap.size, 0, none⟩) 4 4] (W.alloc (.cells #[.int .i64 (-1), .int .i64 (sgnI a.row b.row), .int .i64 (sgnI a.col b.col), .int .i64 (sgnT a.word b.word)] 3)) fun e w' => e = .returned (.int .i64 (a.cmp b)) ∧ (W.alloc (.cells #[.int .i64 (-1), .int .i64 (sgnI a.row b.row), .int .i64 (sgnI a.col b.col), .int .i64 (sgnT a.word b.word)] 3)) = w') := Lib.hid (fun W => by
        have h := orInt_any [-1, sgnI a.row b.row, sgnI a.col b.col, sgnT a.word b.word] W.heap.size 4 _ (ints_new W 3 [-1, sgnI a.row b.row, sgnI a.col b.col, sgnT a.word b.word]) (by simp)
        rw [HC.out] at h
        exact h)
      have HC1 := Lib.hid (cmpInt_any a.row b.row)
      have HC2 := Lib.hid (cmpInt_any a.col b.col)
      have HC3 := Lib.hid (cmpText_any a.word b.word)
      generalize sgnI a.row b.row = n1 at *
      generalize sgnI a.col b.col = n2 at *
      generalize sgnT a.word b.word = n3 at *
      refine wp_region_still_tail 16 (by kernel_rfl) (by kernel_rfl) ?_
      simp only [List.take_succ_cons, List.take_zero, List.drop_succ_cons, List.drop_zero]
      change wpStill _ _ w2.drew (fun a' => wpList _ _ _ _ a' w2.drew) _ _
      generalize w2.drew = wd at *
      iterate 5 still_step
      still_call (HC1.out _)
      iterate 4 still_step
      still_call (HC2.out _)
      iterate 4 still_step
      still_call (HC3.out _)
      refine wpStill_nil ?_
      clear a0 a1 a3 b0 b1 b3 VA VB HC1 HC2 HC3
      go_wp2_with fail
      refine (HO.out wd).mono ?_
      rintro e w' ⟨rfl, rfl⟩
      go_wp2
      go_ret
      exact ⟨rfl, hb.alloc hb.size _⟩
  | true =>
    cases hd : b.down with
    | false =>
      have HC := Lib.hid (cmp_or a b)
      rw [ha, hd, if_neg (by decide), if_pos rfl] at HC
      rw [ha] at a2 VA
      rw [hd] at b2 VB
      clear ha hd
      go_upto_region 6 with fail
      clear a2 b2
      have hd : Below w2.heap.size w2 w2.drew := (Below.refl _ _).drew
      replace hb := hb.trans (hd.mono hb.size)
      replace VA := Lib.hid (VA.out.kept hd)
      replace VB := Lib.hid (VB.out.kept hd)
      clear hd
      have a0 := VA.out.cell (i := 0) rfl
      have a1 := VA.out.cell (i := 1) rfl
      have a3 := VA.out.cell (i := 3) rfl
      have b0 := VB.out.cell (i := 0) rfl
      have b1 := VB.out.cell (i := 1) rfl
      have b3 := VB.out.cell (i := 3) rfl
      have HO : Hid (∀ W : World, Calls Tryz.prog 133 #[.slice (some ⟨W.heap.size, 0, none⟩) 4 4] (W.alloc (.cells #[.int .i64 (1), .int .i64 (sgnI a.row b.row), .int .i64 (sgnI a.col b.col), .int .i64 (sgnT a.word b.word)] 3)) fun e w' => e = .returned (.int .i64 (a.cmp b)) ∧ (W.alloc (.cells #[.int .i64 (1), .int .i64 (sgnI a.row b.row), .int .i64 (sgnI a.col b.col), .int .i64 (sgnT a.word b.word)] 3)) = w') := Lib.hid (fun W => by
        have h := orInt_any [1, sgnI a.row b.row, sgnI a.col b.col, sgnT a.word b.word] W.heap.size 4 _ (ints_new W 3 [1, sgnI a.row b.row, sgnI a.col b.col, sgnT a.word b.word]) (by simp)
        rw [HC.out] at h
        exact h)
      have HC1 := Lib.hid (cmpInt_any a.row b.row)
      have HC2 := Lib.hid (cmpInt_any a.col b.col)
      have HC3 := Lib.hid (cmpText_any a.word b.word)
      generalize sgnI a.row b.row = n1 at *
      generalize sgnI a.col b.col = n2 at *
      generalize sgnT a.word b.word = n3 at *
      refine wp_region_still_tail 16 (by kernel_rfl) (by kernel_rfl) ?_
      simp only [List.take_succ_cons, List.take_zero, List.drop_succ_cons, List.drop_zero]
      change wpStill _ _ w2.drew (fun a' => wpList _ _ _ _ a' w2.drew) _ _
      generalize w2.drew = wd at *
      iterate 5 still_step
      still_call (HC1.out _)
      iterate 4 still_step
      still_call (HC2.out _)
      iterate 4 still_step
      still_call (HC3.out _)
      refine wpStill_nil ?_
      clear a0 a1 a3 b0 b1 b3 VA VB HC1 HC2 HC3
      go_wp2_with fail
      refine (HO.out wd).mono ?_
      rintro e w' ⟨rfl, rfl⟩
      go_wp2
      go_ret
      exact ⟨rfl, hb.alloc hb.size _⟩
    | true =>
      have HC := Lib.hid (cmp_or a b)
      rw [ha, hd, if_pos rfl] at HC
      rw [ha] at a2 VA
      rw [hd] at b2 VB
      clear ha hd
      go_upto_region 6 with fail
      clear a2 b2
      have hd : Below w2.heap.size w2 w2.drew := (Below.refl _ _).drew
      replace hb := hb.trans (hd.mono hb.size)
      replace VA := Lib.hid (VA.out.kept hd)
      replace VB := Lib.hid (VB.out.kept hd)
      clear hd
      have a0 := VA.out.cell (i := 0) rfl
      have a1 := VA.out.cell (i := 1) rfl
      have a3 := VA.out.cell (i := 3) rfl
      have b0 := VB.out.cell (i := 0) rfl
      have b1 := VB.out.cell (i := 1) rfl
      have b3 := VB.out.cell (i := 3) rfl
      have HO : Hid (∀ W : World, Calls Tryz.prog 133 #[.slice (some ⟨W.heap.size, 0, none⟩) 4 4] (W.alloc (.cells #[.int .i64 (0), .int .i64 (sgnI a.row b.row), .int .i64 (sgnI a.col b.col), .int .i64 (sgnT a.word b.word)] 3)) fun e w' => e = .returned (.int .i64 (a.cmp b)) ∧ (W.alloc (.cells #[.int .i64 (0), .int .i64 (sgnI a.row b.row), .int .i64 (sgnI a.col b.col), .int .i64 (sgnT a.word b.word)] 3)) = w') := Lib.hid (fun W => by
        have h := orInt_any [0, sgnI a.row b.row, sgnI a.col b.col, sgnT a.word b.word] W.heap.size 4 _ (ints_new W 3 [0, sgnI a.row b.row, sgnI a.col b.col, sgnT a.word b.word]) (by simp)
        rw [HC.out] at h
        exact h)
      have HC1 := Lib.hid (cmpInt_any a.row b.row)
      have HC2 := Lib.hid (cmpInt_any a.col b.col)
      have HC3 := Lib.hid (cmpText_any a.word b.word)
      generalize sgnI a.row b.row = n1 at *
      generalize sgnI a.col b.col = n2 at *
      generalize sgnT a.word b.word = n3 at *
      refine wp_region_still_tail 16 (by kernel_rfl) (by kernel_rfl) ?_
      simp only [List.take_succ_cons, List.take_zero, List.drop_succ_cons, List.drop_zero]
      change wpStill _ _ w2.drew (fun a' => wpList _ _ _ _ a' w2.drew) _ _
      generalize w2.drew = wd at *
      iterate 5 still_step
      still_call (HC1.out _)
      iterate 4 still_step
      still_call (HC2.out _)
      iterate 4 still_step
      still_call (HC3.out _)
      refine wpStill_nil ?_
      clear a0 a1 a3 b0 b1 b3 VA VB HC1 HC2 HC3
      go_wp2_with fail
      refine (HO.out wd).mono ?_
      rintro e w' ⟨rfl, rfl⟩
      go_wp2
      go_ret
      exact ⟨rfl, hb.alloc hb.size _⟩
/-! ### Scored plays -/
/-- the cells of a scored play -/
def mcells (s : Int) (a : Ply) : List Value := [.int .i64 a.row, .int .i64 a.col, .bool a.down, .string a.word, .int .i64 s]
theorem sgnI_tri (a b : Int) : sgnI a b = -1 ∨ sgnI a b = 0 ∨ sgnI a b = 1 := by
  unfold sgnI
  split
  · exact .inl rfl
  · split
    · exact .inr (.inr rfl)
    · exact .inr (.inl rfl)
theorem sgnT_tri (a b : ByteArray) : sgnT a b = -1 ∨ sgnT a b = 0 ∨ sgnT a b = 1 := by
  unfold sgnT
  split
  · exact .inl rfl
  · split
    · exact .inr (.inr rfl)
    · exact .inr (.inl rfl)
theorem cmp_tri (a b : Ply) : a.cmp b = -1 ∨ a.cmp b = 0 ∨ a.cmp b = 1 := by
  unfold Ply.cmp
  split
  · split
    · split
      · exact sgnT_tri _ _
      · exact sgnI_tri _ _
    · exact sgnI_tri _ _
  · split
    · exact .inl rfl
    · exact .inr (.inr rfl)
theorem mvCmp_tri (s t : Int) (a b : Ply) : mvCmp s t a b = -1 ∨ mvCmp s t a b = 0 ∨ mvCmp s t a b = 1 := by
  unfold mvCmp
  split
  · exact .inl rfl
  · split
    · exact .inr (.inr rfl)
    · exact cmp_tri _ _
set_option maxRecDepth 100000 in
set_option maxHeartbeats 4000000 in
theorem CompareMoves_any (s t : Int) (a b : Ply) (w : World) :
    Calls Tryz.prog 112 #[.agg #[.int .i64 a.row, .int .i64 a.col, .bool a.down, .string a.word, .int .i64 s], .agg #[.int .i64 b.row, .int .i64 b.col, .bool b.down, .string b.word, .int .i64 t]] w fun e w' => e = .returned (.int .i64 (mvCmp s t a b)) ∧ Below w.heap.size w w' := by
  obtain ⟨w2, hw2⟩ : ∃ w2, w2 = (w.alloc (.cells #[.int .i64 a.row, .int .i64 a.col, .bool a.down, .string a.word, .int .i64 s] 125)).alloc (.cells #[.int .i64 b.row, .int .i64 b.col, .bool b.down, .string b.word, .int .i64 t] 125) := ⟨_, rfl⟩
  have hb : Below w.heap.size w w2 := by rw [hw2]; exact ((Below.refl _ _).alloc (Nat.le_refl _) _).alloc (by simp) _
  have VA : Hid (VarAt w2 w.heap.size 125 (mcells s a)) := by
    rw [hw2]
    exact Lib.hid ((VarAt.new w 125 (mcells s a)).kept ((Below.refl _ _).alloc (Nat.le_refl _) _))
  have VB : Hid (VarAt w2 (w.heap.size + 1) 125 (mcells t b)) := by
    rw [hw2]
    have := VarAt.new (w.alloc (.cells #[.int .i64 a.row, .int .i64 a.col, .bool a.down, .string a.word, .int .i64 s] 125)) 125 (mcells t b)
    simp only [World.size_alloc] at this
    exact Lib.hid this
  have HW2 := Lib.hid hw2
  clear hw2
  have HP : Hid (∀ W, Calls Tryz.prog 55 #[.agg #[.int .i64 a.row, .int .i64 a.col, .bool a.down, .string a.word], .agg #[.int .i64 b.row, .int .i64 b.col, .bool b.down, .string b.word]] W fun e w' => e = .returned (.int .i64 (a.cmp b)) ∧ Below W.heap.size W w') := Lib.hid (ComparePlays_any a b)
  have HM : Hid (mvCmp s t a b = if t < s then -1 else if s < t then 1 else a.cmp b) := Lib.hid rfl
  go_enter Tryz.func112, Tryz.ntmps112
  go_upto_region 1 with fail
  rw [← HW2.out]
  clear HW2
  have a0 := VA.out.cell (i := 0) rfl
  have a1 := VA.out.cell (i := 1) rfl
  have a2 := VA.out.cell (i := 2) rfl
  have a3 := VA.out.cell (i := 3) rfl
  have a4 := VA.out.cell (i := 4) rfl
  have b0 := VB.out.cell (i := 0) rfl
  have b1 := VB.out.cell (i := 1) rfl
  have b2 := VB.out.cell (i := 2) rfl
  have b3 := VB.out.cell (i := 3) rfl
  have b4 := VB.out.cell (i := 4) rfl
  by_cases h1 : t < s
  · have HC := Lib.hid (HM.out.trans (if_pos h1))
    clear HM
    go_wp2
    go_ret
    exact ⟨by rw [HC.out]; rfl, hb⟩
  · by_cases h2 : s < t
    · have HC : Hid (mvCmp s t a b = 1) := Lib.hid (by rw [HM.out, if_neg h1, if_pos h2])
      clear HM
      go_wp2
      go_ret
      exact ⟨by rw [HC.out]; rfl, hb⟩
    · have HC : Hid (mvCmp s t a b = a.cmp b) := Lib.hid (by rw [HM.out, if_neg h1, if_neg h2])
      clear HM
      generalize a.cmp b = r at *
      go_wp2_with fail
      refine (HP.out _).mono ?_
      rintro e w3 ⟨rfl, hd⟩
      replace hb := hb.trans (hd.mono hb.size)
      clear hd a0 a1 a2 a3 a4 b0 b1 b2 b3 b4
      go_wp2
      go_ret
      exact ⟨by rw [HC.out]; rfl, hb⟩
set_option maxRecDepth 100000 in
set_option maxHeartbeats 4000000 in
theorem bestFn_any (s t : Int) (a b : Ply) (w : World) :
    Calls Tryz.prog 111 #[.agg #[.int .i64 a.row, .int .i64 a.col, .bool a.down, .string a.word, .int .i64 s], .agg #[.int .i64 b.row, .int .i64 b.col, .bool b.down, .string b.word, .int .i64 t]] w fun e w' => e = .returned (.int .i64 (- mvCmp s t a b)) ∧ Below w.heap.size w w' := by
  obtain ⟨w2, hw2⟩ : ∃ w2, w2 = (w.alloc (.cells #[.int .i64 a.row, .int .i64 a.col, .bool a.down, .string a.word, .int .i64 s] 125)).alloc (.cells #[.int .i64 b.row, .int .i64 b.col, .bool b.down, .string b.word, .int .i64 t] 125) := ⟨_, rfl⟩
  have hb : Below w.heap.size w w2 := by rw [hw2]; exact ((Below.refl _ _).alloc (Nat.le_refl _) _).alloc (by simp) _
  have VA : Hid (VarAt w2 w.heap.size 125 (mcells s a)) := by
    rw [hw2]
    exact Lib.hid ((VarAt.new w 125 (mcells s a)).kept ((Below.refl _ _).alloc (Nat.le_refl _) _))
  have VB : Hid (VarAt w2 (w.heap.size + 1) 125 (mcells t b)) := by
    rw [hw2]
    have := VarAt.new (w.alloc (.cells #[.int .i64 a.row, .int .i64 a.col, .bool a.down, .string a.word, .int .i64 s] 125)) 125 (mcells t b)
    simp only [World.size_alloc] at this
    exact Lib.hid this
  have HW2 := Lib.hid hw2
  clear hw2
  have HP : Hid (∀ W, Calls Tryz.prog 112 #[.agg #[.int .i64 a.row, .int .i64 a.col, .bool a.down, .string a.word, .int .i64 s], .agg #[.int .i64 b.row, .int .i64 b.col, .bool b.down, .string b.word, .int .i64 t]] W fun e w' => e = .returned (.int .i64 (mvCmp s t a b)) ∧ Below W.heap.size W w') := Lib.hid (CompareMoves_any s t a b)
  have HT := Lib.hid (mvCmp_tri s t a b)
  generalize mvCmp s t a b = r at *
  go_enter Tryz.func111, Tryz.ntmps111
  go_upto_region 1 with fail
  rw [← HW2.out]
  clear HW2
  have a0 := VA.out.cell (i := 0) rfl
  have a1 := VA.out.cell (i := 1) rfl
  have a2 := VA.out.cell (i := 2) rfl
  have a3 := VA.out.cell (i := 3) rfl
  have a4 := VA.out.cell (i := 4) rfl
  have b0 := VB.out.cell (i := 0) rfl
  have b1 := VB.out.cell (i := 1) rfl
  have b2 := VB.out.cell (i := 2) rfl
  have b3 := VB.out.cell (i := 3) rfl
  have b4 := VB.out.cell (i := 4) rfl
  go_wp2_with fail
  refine (HP.out _).mono ?_
  rintro e w3 ⟨rfl, hd⟩
  replace hb := hb.trans (hd.mono hb.size)
  clear hd a0 a1 a2 a3 a4 b0 b1 b2 b3 b4
  rcases HT.out with h | h | h
  all_goals
    have HR := Lib.hid h
    subst h
    go_wp2
    go_ret
    exact ⟨rfl, hb⟩
end Go.Proofs.YtjdcdhhbgijaoaaGreatDoor
