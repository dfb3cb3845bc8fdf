/- Contracts: the comparisons of plays and of scored plays: the program and the reference. No condition. -/
import Derived.Test.YtofcampipllegaaGreatDoorBpP
import Derived.Test.YtofcampipllegaaGreatDoorVar
import Derived.StillTailTactics
namespace Go.Proofs.YtofcampipllegaaGreatDoor
open Go.ChangeShapes Go.WideShapes Go.ChangeAt Go.RowKit Go.Sort

theorem text_cases (a b : ByteArray) : (Op.bytesLess a.toList b.toList = true ∧ sgnT a b = -1) ∨ (Op.bytesLess a.toList b.toList = false ∧ (a.toList == b.toList) = false ∧ sgnT a b = 1) ∨ (Op.bytesLess a.toList b.toList = false ∧ (a.toList == b.toList) = true ∧ sgnT a b = 0) := by
  unfold sgnT
  cases h1 : Op.bytesLess a.toList b.toList with
  | true => exact .inl ⟨rfl, by simp⟩
  | false =>
    cases h2 : Op.bytesLess b.toList a.toList with
    | true => exact .inr (.inl ⟨rfl, (less_no h2).2, by simp⟩)
    | false =>
      refine .inr (.inr ⟨rfl, ?_, by simp⟩)
      rw [bytesLess_eq, decide_eq_false_iff_not] at h1 h2
      rw [beq_iff_eq]
      exact List.le_antisymm (List.not_lt.1 h2) (List.not_lt.1 h1)
theorem cmpNaNI_any (x : Int) (w : World) : Calls Tryz.prog 252 #[.int .i64 x] w fun e w' => e = .returned (.bool false) ∧ w = w' := by
  go_enter Tryz.func252, Tryz.ntmps252
  go_wp2
  go_ret
  exact ⟨by simp, rfl⟩
theorem cmpNaNT_any (x : ByteArray) (w : World) : Calls Tryz.prog 253 #[.string x] w fun e w' => e = .returned (.bool false) ∧ w = w' := by
  go_enter Tryz.func253, Tryz.ntmps253
  go_wp2
  go_ret
  exact ⟨by simp, rfl⟩
set_option maxHeartbeats 1000000 in
theorem cmpInt_any (a b : Int) (w : World) : Calls Tryz.prog 213 #[.int .i64 a, .int .i64 b] w fun e w' => e = .returned (.int .i64 (sgnI a b)) ∧ w' = w := by
  have H : (a < b ∧ sgnI a b = -1) ∨ (¬ a < b ∧ b < a ∧ sgnI a b = 1) ∨ (¬ a < b ∧ ¬ b < a ∧ sgnI a b = 0) := by
    unfold sgnI
    by_cases h1 : a < b
    · exact .inl ⟨h1, if_pos h1⟩
    · by_cases h2 : b < a
      · exact .inr (.inl ⟨h1, h2, by rw [if_neg h1, if_pos h2]⟩)
      · exact .inr (.inr ⟨h1, h2, by rw [if_neg h1, if_neg h2]⟩)
  generalize sgnI a b = r at *
  go_enter Tryz.func213, Tryz.ntmps213
  go_wp2_with fail
  refine (cmpNaNI_any a _).mono ?_
  rintro e w' ⟨rfl, rfl⟩
  go_wp2_with fail
  refine (cmpNaNI_any b _).mono ?_
  rintro e w' ⟨rfl, rfl⟩
  rcases H with ⟨h1, rfl⟩ | ⟨h1, h2, rfl⟩ | ⟨h1, h2, rfl⟩
  · go_wp2
    go_ret
    exact ⟨rfl, rfl⟩
  · go_wp2
    go_ret
    exact ⟨rfl, rfl⟩
  · go_wp2
    go_ret
    exact ⟨rfl, rfl⟩
set_option maxHeartbeats 1000000 in
theorem cmpText_any (a b : ByteArray) (w : World) : Calls Tryz.prog 214 #[.string a, .string b] w fun e w' => e = .returned (.int .i64 (sgnT a b)) ∧ w' = w := by
  have H := text_cases a b
  generalize sgnT a b = r at *
  go_enter Tryz.func214, Tryz.ntmps214
  go_wp2_with fail
  refine (cmpNaNT_any a _).mono ?_
  rintro e w' ⟨rfl, rfl⟩
  go_wp2_with fail
  refine (cmpNaNT_any b _).mono ?_
  rintro e w' ⟨rfl, rfl⟩
  rcases H with ⟨h1, rfl⟩ | ⟨h1, h2, rfl⟩ | ⟨h1, h2, rfl⟩
  · go_wp2
    go_ret
    exact ⟨rfl, rfl⟩
  · go_wp2
    go_ret
    exact ⟨rfl, rfl⟩
  · go_wp2
    go_ret
    exact ⟨rfl, rfl⟩
theorem l12Sign_any (a b : Int) (w : World) : Calls Tryz.prog 120 #[.int .i64 a, .int .i64 b] w fun e w' => e = .returned (.int .i64 (sgnI a b)) ∧ w' = w := by
  have H : (a < b ∧ sgnI a b = -1) ∨ (¬ a < b ∧ b < a ∧ sgnI a b = 1) ∨ (¬ a < b ∧ ¬ b < a ∧ sgnI a b = 0) := by
    unfold sgnI
    by_cases h1 : a < b
    · exact .inl ⟨h1, if_pos h1⟩
    · by_cases h2 : b < a
      · exact .inr (.inl ⟨h1, h2, by rw [if_neg h1, if_pos h2]⟩)
      · exact .inr (.inr ⟨h1, h2, by rw [if_neg h1, if_neg h2]⟩)
  generalize sgnI a b = r at *
  rcases H with ⟨h1, rfl⟩ | ⟨h1, h2, rfl⟩ | ⟨h1, h2, rfl⟩
  all_goals
    go_enter Tryz.func120, Tryz.ntmps120
    go_wp2
    go_ret
    exact ⟨rfl, rfl⟩
/-- two plays lie in two variables -/
theorem cmp0 {a b : Ply} (h : a.down = false) (h2 : b.down = true) : a.cmp b = -1 := by unfold Ply.cmp; rw [h, h2]; rfl
theorem cmp1 {a b : Ply} (h : a.down = true) (h2 : b.down = false) : a.cmp b = 1 := by unfold Ply.cmp; rw [h, h2]; rfl
theorem cmp2 {a b : Ply} (h : a.down = b.down) (h2 : ¬ a.row = b.row) : a.cmp b = sgnI a.row b.row := by unfold Ply.cmp; rw [if_pos h, if_neg h2]
theorem cmp3 {a b : Ply} (h : a.down = b.down) (h2 : a.row = b.row) (h3 : ¬ a.col = b.col) : a.cmp b = sgnI a.col b.col := by unfold Ply.cmp; rw [if_pos h, if_pos h2, if_neg h3]
theorem cmp4 {a b : Ply} (h : a.down = b.down) (h2 : a.row = b.row) (h3 : a.col = b.col) : a.cmp b = sgnT a.word b.word := by unfold Ply.cmp; rw [if_pos h, if_pos h2, if_pos h3]
set_option maxRecDepth 100000 in
set_option maxHeartbeats 4000000 in
theorem l12Compare_any (a b : Ply) (w : World) :
    Calls Tryz.prog 59 #[.agg #[.int .i64 a.row, .int .i64 a.col, .bool a.down, .string a.word], .agg #[.int .i64 b.row, .int .i64 b.col, .bool b.down, .string b.word]] w fun e w' => e = .returned (.int .i64 (a.cmp b)) ∧ Below w.heap.size w w' := by
  obtain ⟨w2, hw2⟩ : ∃ w2, w2 = (w.alloc (.cells #[.int .i64 a.row, .int .i64 a.col, .bool a.down, .string a.word] 61)).alloc (.cells #[.int .i64 b.row, .int .i64 b.col, .bool b.down, .string b.word] 61) := ⟨_, rfl⟩
  have hb : Below w.heap.size w w2 := by rw [hw2]; exact ((Below.refl _ _).alloc (Nat.le_refl _) _).alloc (by simp) _
  have VA : Hid (VarAt w2 w.heap.size 61 [.int .i64 a.row, .int .i64 a.col, .bool a.down, .string a.word]) := by
    rw [hw2]
    exact Lib.hid ((VarAt.new w 61 [.int .i64 a.row, .int .i64 a.col, .bool a.down, .string a.word]).kept ((Below.refl _ _).alloc (Nat.le_refl _) _))
  have VB : Hid (VarAt w2 (w.heap.size + 1) 61 [.int .i64 b.row, .int .i64 b.col, .bool b.down, .string b.word]) := by
    rw [hw2]
    have := VarAt.new (w.alloc (.cells #[.int .i64 a.row, .int .i64 a.col, .bool a.down, .string a.word] 61)) 61 [.int .i64 b.row, .int .i64 b.col, .bool b.down, .string b.word]
    simp only [World.size_alloc] at this
    exact Lib.hid this
  have HW2 := Lib.hid hw2
  clear hw2
  go_enter Tryz.func59, Tryz.ntmps59
  go_upto_region 1 with fail
  rw [← HW2.out]
  clear HW2
  have a0 := VA.out.cell (i := 0) rfl
  have a1 := VA.out.cell (i := 1) rfl
  have a2 := VA.out.cell (i := 2) rfl
  have a3 := VA.out.cell (i := 3) rfl
  have b0 := VB.out.cell (i := 0) rfl
  have b1 := VB.out.cell (i := 1) rfl
  have b2 := VB.out.cell (i := 2) rfl
  have b3 := VB.out.cell (i := 3) rfl
  cases ha : a.down with
  | false =>
    cases hd : b.down with
    | false =>
      have HD := Lib.hid (ha.trans hd.symm)
      rw [ha] at a2
      rw [hd] at b2
      clear ha hd
      by_cases h2 : a.row = b.row
      case neg =>
        have HC := Lib.hid (cmp2 HD.out h2)
        have HS := Lib.hid (l12Sign_any a.row b.row)
        have e2 : (a.row != b.row) = true := by rw [bne_iff_ne]; exact h2
        clear h2
        generalize sgnI a.row b.row = r2 at *
        go_wp2_with fail
        refine (HS.out _).mono ?_
        rintro e w' ⟨rfl, rfl⟩
        go_wp2
        go_ret
        exact ⟨by rw [HC.out]; rfl, hb⟩
      case pos =>
        by_cases h3 : a.col = b.col
        case neg =>
          have HC := Lib.hid (cmp3 HD.out h2 h3)
          have HS := Lib.hid (l12Sign_any a.col b.col)
          have e2 : (a.row != b.row) = false := by rw [h2]; simp
          have e3 : (a.col != b.col) = true := by rw [bne_iff_ne]; exact h3
          clear h2 h3
          generalize sgnI a.col b.col = r2 at *
          go_wp2_with fail
          refine (HS.out _).mono ?_
          rintro e w' ⟨rfl, rfl⟩
          go_wp2
          go_ret
          exact ⟨by rw [HC.out]; rfl, hb⟩
        case pos =>
          have HC := Lib.hid (cmp4 HD.out h2 h3)
          have HT := Lib.hid (text_cases a.word b.word)
          have e2 : (a.row != b.row) = false := by rw [h2]; simp
          have e3 : (a.col != b.col) = false := by rw [h3]; simp
          clear h2 h3
          generalize sgnT a.word b.word = r2 at *
          rcases HT.out with ⟨t1, rfl⟩ | ⟨t1, t2, rfl⟩ | ⟨t1, t2, rfl⟩
          · clear HT
            go_wp2
            go_ret
            exact ⟨by rw [HC.out]; rfl, hb⟩
          · clear HT
            go_wp2
            go_ret
            exact ⟨by rw [HC.out]; rfl, hb⟩
          · clear HT
            go_wp2
            go_ret
            exact ⟨by rw [HC.out]; rfl, hb⟩
    | true =>
      have HC := Lib.hid (cmp0 ha hd)
      rw [ha] at a2
      rw [hd] at b2
      clear ha hd
      go_wp2
      go_ret
      exact ⟨by rw [HC.out]; rfl, hb⟩
  | true =>
    cases hd : b.down with
    | false =>
      have HC := Lib.hid (cmp1 ha hd)
      rw [ha] at a2
      rw [hd] at b2
      clear ha hd
      go_wp2
      go_ret
      exact ⟨by rw [HC.out]; rfl, hb⟩
    | true =>
      have HD := Lib.hid (ha.trans hd.symm)
      rw [ha] at a2
      rw [hd] at b2
      clear ha hd
      by_cases h2 : a.row = b.row
      case neg =>
        have HC := Lib.hid (cmp2 HD.out h2)
        have HS := Lib.hid (l12Sign_any a.row b.row)
        have e2 : (a.row != b.row) = true := by rw [bne_iff_ne]; exact h2
        clear h2
        generalize sgnI a.row b.row = r2 at *
        go_wp2_with fail
        refine (HS.out _).mono ?_
        rintro e w' ⟨rfl, rfl⟩
        go_wp2
        go_ret
        exact ⟨by rw [HC.out]; rfl, hb⟩
      case pos =>
        by_cases h3 : a.col = b.col
        case neg =>
          have HC := Lib.hid (cmp3 HD.out h2 h3)
          have HS := Lib.hid (l12Sign_any a.col b.col)
          have e2 : (a.row != b.row) = false := by rw [h2]; simp
          have e3 : (a.col != b.col) = true := by rw [bne_iff_ne]; exact h3
          clear h2 h3
          generalize sgnI a.col b.col = r2 at *
          go_wp2_with fail
          refine (HS.out _).mono ?_
          rintro e w' ⟨rfl, rfl⟩
          go_wp2
          go_ret
          exact ⟨by rw [HC.out]; rfl, hb⟩
        case pos =>
          have HC := Lib.hid (cmp4 HD.out h2 h3)
          have HT := Lib.hid (text_cases a.word b.word)
          have e2 : (a.row != b.row) = false := by rw [h2]; simp
          have e3 : (a.col != b.col) = false := by rw [h3]; simp
          clear h2 h3
          generalize sgnT a.word b.word = r2 at *
          rcases HT.out with ⟨t1, rfl⟩ | ⟨t1, t2, rfl⟩ | ⟨t1, t2, rfl⟩
          · clear HT
            go_wp2
            go_ret
            exact ⟨by rw [HC.out]; rfl, hb⟩
          · clear HT
            go_wp2
            go_ret
            exact ⟨by rw [HC.out]; rfl, hb⟩
          · clear HT
            go_wp2
            go_ret
            exact ⟨by rw [HC.out]; rfl, hb⟩
end Go.Proofs.YtofcampipllegaaGreatDoor
